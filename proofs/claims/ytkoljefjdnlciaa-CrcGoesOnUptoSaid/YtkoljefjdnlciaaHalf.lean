/- The table that crc.half makes, and the walk of it. -/
import Derived.Test.YtkoljefjdnlciaaH0
import Derived.Test.YtkoljefjdnlciaaHelp
import Derived.Test.YtkoljefjdnlciaaCrc
namespace Go.Proofs.Ytkoljefjdnlciaa.Hy
open Go.RowKit Go.Proofs.YtkoljefjdnlciaaW.PrintWords Go.Proofs.YtkoljefjdnlciaaW.PrintLast Go.Proofs.YtkoljefjdnlciaaW.PrintMore
def crc_More.tabU (i : Nat) : Array Value := ((List.range 16).map fun j => if j < i then Value.int .u32 (Pl.tabI j) else .int .u32 0).toArray
theorem crc_More.tab_size (i : Nat) : (crc_More.tabU i).size = 16 := by simp [crc_More.tabU]
theorem crc_More.tab_at (i j : Nat) (h : j < 16) : (crc_More.tabU i)[j]? = some (if j < i then Value.int .u32 (Pl.tabI j) else .int .u32 0) := by
  simp [crc_More.tabU, h]
theorem crc_More.tab_set (i : Nat) (h : i < 16) : (crc_More.tabU i).setIfInBounds i (.int .u32 (Pl.tabI i)) = crc_More.tabU (i + 1) := by
  apply Array.ext_getElem?
  intro j
  rw [Array.getElem?_setIfInBounds]
  by_cases hj : j < 16
  · rw [crc_More.tab_at (i + 1) j hj]
    by_cases he : i = j
    · subst he
      rw [if_pos rfl, if_pos (by rw [crc_More.tab_size]; exact h), if_pos (by omega)]
    · rw [if_neg he, crc_More.tab_at i j hj]
      congr 1
      by_cases hl : j < i
      · rw [if_pos hl, if_pos (by omega)]
      · rw [if_neg hl, if_neg (by omega)]
  · rw [Array.getElem?_eq_none (by rw [crc_More.tab_size]; omega), Array.getElem?_eq_none (by rw [crc_More.tab_size]; omega), if_neg (by omega)]
theorem crc_More.set_same {W : World} {g t : Nat} {cs : Array Value} (h : W.heap[g]? = some (.cells cs t (0, 0))) (j : Nat) (v : Value) (hv : cs[j]? = some v) : (W.setCell ⟨g, j, none⟩ v).heap[g]? = some (.cells cs t (0, 0)) := by
  rw [hb_set h j v]
  congr 2
  apply Array.ext_getElem?
  intro i
  rw [Array.getElem?_setIfInBounds]
  by_cases he : j = i
  · subst he
    have := (Array.getElem?_eq_some_iff.1 hv).1
    rw [if_pos rfl, if_pos this, hv]
  · rw [if_neg he]
theorem crc_More.tab_lit : crc_More.tabU 16 = #[.int .u32 (Pl.tabI 0), .int .u32 (Pl.tabI 1), .int .u32 (Pl.tabI 2), .int .u32 (Pl.tabI 3), .int .u32 (Pl.tabI 4), .int .u32 (Pl.tabI 5), .int .u32 (Pl.tabI 6), .int .u32 (Pl.tabI 7), .int .u32 (Pl.tabI 8), .int .u32 (Pl.tabI 9), .int .u32 (Pl.tabI 10), .int .u32 (Pl.tabI 11), .int .u32 (Pl.tabI 12), .int .u32 (Pl.tabI 13), .int .u32 (Pl.tabI 14), .int .u32 (Pl.tabI 15)] := by
  apply Array.ext_getElem?
  intro i
  rcases Nat.lt_or_ge i 16 with h | h
  · rw [crc_More.tab_at 16 i h, if_pos h]
    have : i = 0 ∨ i = 1 ∨ i = 2 ∨ i = 3 ∨ i = 4 ∨ i = 5 ∨ i = 6 ∨ i = 7 ∨ i = 8 ∨ i = 9 ∨ i = 10 ∨ i = 11 ∨ i = 12 ∨ i = 13 ∨ i = 14 ∨ i = 15 := by omega
    rcases this with rfl | rfl | rfl | rfl | rfl | rfl | rfl | rfl | rfl | rfl | rfl | rfl | rfl | rfl | rfl | rfl <;> rfl
  · rw [Array.getElem?_eq_none (by rw [crc_More.tab_size]; omega), Array.getElem?_eq_none (by simpa using h)]
set_option maxRecDepth 100000 in
set_option maxHeartbeats 4000000 in
theorem crc_More.half_res (g : Nat) (rest : List Value) (WF : World) (h : WF.heap[g]? = some (.cells (crc_More.tabU 16) 43 (0, 0))) :
    (results Try.f27 (Value.pointer (some ⟨g, 0, none⟩) :: rest).toArray).run Try.prog WF = .ok (.agg (crc_More.tabU 16)) WF := by
  have k0 := (hb_cell h 0).trans (crc_More.tab_at 16 0 (by decide))
  rw [if_pos (by decide)] at k0
  have k1 := (hb_cell h 1).trans (crc_More.tab_at 16 1 (by decide))
  rw [if_pos (by decide)] at k1
  have k2 := (hb_cell h 2).trans (crc_More.tab_at 16 2 (by decide))
  rw [if_pos (by decide)] at k2
  have k3 := (hb_cell h 3).trans (crc_More.tab_at 16 3 (by decide))
  rw [if_pos (by decide)] at k3
  have k4 := (hb_cell h 4).trans (crc_More.tab_at 16 4 (by decide))
  rw [if_pos (by decide)] at k4
  have k5 := (hb_cell h 5).trans (crc_More.tab_at 16 5 (by decide))
  rw [if_pos (by decide)] at k5
  have k6 := (hb_cell h 6).trans (crc_More.tab_at 16 6 (by decide))
  rw [if_pos (by decide)] at k6
  have k7 := (hb_cell h 7).trans (crc_More.tab_at 16 7 (by decide))
  rw [if_pos (by decide)] at k7
  have k8 := (hb_cell h 8).trans (crc_More.tab_at 16 8 (by decide))
  rw [if_pos (by decide)] at k8
  have k9 := (hb_cell h 9).trans (crc_More.tab_at 16 9 (by decide))
  rw [if_pos (by decide)] at k9
  have k10 := (hb_cell h 10).trans (crc_More.tab_at 16 10 (by decide))
  rw [if_pos (by decide)] at k10
  have k11 := (hb_cell h 11).trans (crc_More.tab_at 16 11 (by decide))
  rw [if_pos (by decide)] at k11
  have k12 := (hb_cell h 12).trans (crc_More.tab_at 16 12 (by decide))
  rw [if_pos (by decide)] at k12
  have k13 := (hb_cell h 13).trans (crc_More.tab_at 16 13 (by decide))
  rw [if_pos (by decide)] at k13
  have k14 := (hb_cell h 14).trans (crc_More.tab_at 16 14 (by decide))
  rw [if_pos (by decide)] at k14
  have k15 := (hb_cell h 15).trans (crc_More.tab_at 16 15 (by decide))
  rw [if_pos (by decide)] at k15
  rw [crc_More.tab_lit]
  clear h
  simp [results, Try.results27, go_sem, k0, k1, k2, k3, k4, k5, k6, k7, k8, k9, k10, k11, k12, k13, k14, k15]
set_option maxRecDepth 100000 in
set_option maxHeartbeats 4000000 in
theorem crc_More.half (w : World) : Calls Try.prog 27 #[] w fun e w' => e = .returned (.agg (crc_More.tabU 16)) ∧ Below w.heap.size w w' := by
  have HB := Aside0.mk (Below.refl w.heap.size w)
  go_enter Try.func27, Try.ntmps27
  go_wp2
  go_loopw [3] (fun c wr => ∃ i : Nat, i ≤ 16 ∧ c = .int .i64 i ∧ Aside0 (wr.heap[w.heap.size]? = some (.cells (crc_More.tabU i) 43 (0, 0))) ∧ Aside0 (Below w.heap.size w wr)) (fun c _ => 16 - (intOf c).toNat)
  case atStart => exact ⟨0, by omega, rfl, ⟨hb_new w _ _⟩, ⟨below_alloc HB.out _⟩⟩
  case round =>
    obtain ⟨i, hi, rfl, HG, HBW⟩ := hrel
    obtain ⟨wo, rfl⟩ : ∃ wo : World, wo = wr := ⟨_, rfl⟩
    by_cases hlt : i < 16
    · have hcell := (hb_cell HG.out i).trans (crc_More.tab_at i i hlt)
      have hfree := hb_free HG.out i
      rw [if_neg (Nat.lt_irrefl i)] at hcell
      go_wp2
      go_loop [2, 8] (fun x k => ∃ j : Nat, j ≤ 4 ∧ k = .int .i64 j ∧ x = .int .u32 (Pl.rI (Fs.stN j (BitVec.ofNat 32 i)))) (fun _ k => 4 - (intOf k).toNat)
      case atStart => exact ⟨0, by omega, rfl, by
        congr 1
        simp only [Fs.stN, Pl.rI, BitVec.toNat_ofNat]
        omega⟩
      case round =>
        obtain ⟨j, hj, rfl, rfl⟩ := hrel
        by_cases hjl : j < 4
        · have hst := Pl.st_walk (Fs.stN j (BitVec.ofNat 32 i))
          rw [← Pl.stN_succ] at hst
          obtain ⟨x, hx⟩ : ∃ x : Int, Pl.rI (Fs.stN j (BitVec.ofNat 32 i)) = x := ⟨_, rfl⟩
          have c0 : 0 ≤ x := by rw [← hx]; exact (Pl.rI_range _).1
          rw [hx] at hst ⊢
          have HS := Aside0.mk hst
          clear hx hst
          go_wp2
          exact ⟨⟨j + 1, by omega, by go_num, by rw [HS.out]⟩, by simp [intOf]; omega⟩
        · obtain rfl : j = 4 := by omega
          have HS := Aside0.mk (crc_More.tab_set i hlt)
          obtain ⟨y, hy⟩ : ∃ y : Int, Pl.rI (Fs.stN 4 (BitVec.ofNat 32 i)) = y := ⟨_, rfl⟩
          have HY := Aside0.mk hy
          rw [hy]
          clear hy
          go_wp2
          go_roundw
          case rel => exact ⟨i + 1, by omega, by go_num, ⟨by rw [← HS.out, show Pl.tabI i = y from HY.out]; exact hb_set HG.out i _⟩, ⟨below_set HBW.out (Nat.le_refl _)⟩⟩
          case measure => simp [intOf]; omega
    · obtain rfl : i = 16 := by omega
      have k0 := (hb_cell HG.out 0).trans (crc_More.tab_at 16 0 (by decide))
      rw [if_pos (by decide)] at k0
      have k1 := (hb_cell HG.out 1).trans (crc_More.tab_at 16 1 (by decide))
      rw [if_pos (by decide)] at k1
      have k2 := (hb_cell HG.out 2).trans (crc_More.tab_at 16 2 (by decide))
      rw [if_pos (by decide)] at k2
      have k3 := (hb_cell HG.out 3).trans (crc_More.tab_at 16 3 (by decide))
      rw [if_pos (by decide)] at k3
      have k4 := (hb_cell HG.out 4).trans (crc_More.tab_at 16 4 (by decide))
      rw [if_pos (by decide)] at k4
      have k5 := (hb_cell HG.out 5).trans (crc_More.tab_at 16 5 (by decide))
      rw [if_pos (by decide)] at k5
      have k6 := (hb_cell HG.out 6).trans (crc_More.tab_at 16 6 (by decide))
      rw [if_pos (by decide)] at k6
      have k7 := (hb_cell HG.out 7).trans (crc_More.tab_at 16 7 (by decide))
      rw [if_pos (by decide)] at k7
      have k8 := (hb_cell HG.out 8).trans (crc_More.tab_at 16 8 (by decide))
      rw [if_pos (by decide)] at k8
      have k9 := (hb_cell HG.out 9).trans (crc_More.tab_at 16 9 (by decide))
      rw [if_pos (by decide)] at k9
      have k10 := (hb_cell HG.out 10).trans (crc_More.tab_at 16 10 (by decide))
      rw [if_pos (by decide)] at k10
      have k11 := (hb_cell HG.out 11).trans (crc_More.tab_at 16 11 (by decide))
      rw [if_pos (by decide)] at k11
      have k12 := (hb_cell HG.out 12).trans (crc_More.tab_at 16 12 (by decide))
      rw [if_pos (by decide)] at k12
      have k13 := (hb_cell HG.out 13).trans (crc_More.tab_at 16 13 (by decide))
      rw [if_pos (by decide)] at k13
      have k14 := (hb_cell HG.out 14).trans (crc_More.tab_at 16 14 (by decide))
      rw [if_pos (by decide)] at k14
      have k15 := (hb_cell HG.out 15).trans (crc_More.tab_at 16 15 (by decide))
      rw [if_pos (by decide)] at k15
      obtain ⟨t0, e0⟩ : ∃ t, Pl.tabI 0 = t := ⟨_, rfl⟩
      rw [e0] at k0
      obtain ⟨t1, e1⟩ : ∃ t, Pl.tabI 1 = t := ⟨_, rfl⟩
      rw [e1] at k1
      obtain ⟨t2, e2⟩ : ∃ t, Pl.tabI 2 = t := ⟨_, rfl⟩
      rw [e2] at k2
      obtain ⟨t3, e3⟩ : ∃ t, Pl.tabI 3 = t := ⟨_, rfl⟩
      rw [e3] at k3
      obtain ⟨t4, e4⟩ : ∃ t, Pl.tabI 4 = t := ⟨_, rfl⟩
      rw [e4] at k4
      obtain ⟨t5, e5⟩ : ∃ t, Pl.tabI 5 = t := ⟨_, rfl⟩
      rw [e5] at k5
      obtain ⟨t6, e6⟩ : ∃ t, Pl.tabI 6 = t := ⟨_, rfl⟩
      rw [e6] at k6
      obtain ⟨t7, e7⟩ : ∃ t, Pl.tabI 7 = t := ⟨_, rfl⟩
      rw [e7] at k7
      obtain ⟨t8, e8⟩ : ∃ t, Pl.tabI 8 = t := ⟨_, rfl⟩
      rw [e8] at k8
      obtain ⟨t9, e9⟩ : ∃ t, Pl.tabI 9 = t := ⟨_, rfl⟩
      rw [e9] at k9
      obtain ⟨t10, e10⟩ : ∃ t, Pl.tabI 10 = t := ⟨_, rfl⟩
      rw [e10] at k10
      obtain ⟨t11, e11⟩ : ∃ t, Pl.tabI 11 = t := ⟨_, rfl⟩
      rw [e11] at k11
      obtain ⟨t12, e12⟩ : ∃ t, Pl.tabI 12 = t := ⟨_, rfl⟩
      rw [e12] at k12
      obtain ⟨t13, e13⟩ : ∃ t, Pl.tabI 13 = t := ⟨_, rfl⟩
      rw [e13] at k13
      obtain ⟨t14, e14⟩ : ∃ t, Pl.tabI 14 = t := ⟨_, rfl⟩
      rw [e14] at k14
      obtain ⟨t15, e15⟩ : ∃ t, Pl.tabI 15 = t := ⟨_, rfl⟩
      rw [e15] at k15
      have E0 := Aside0.mk e0
      have E1 := Aside0.mk e1
      have E2 := Aside0.mk e2
      have E3 := Aside0.mk e3
      have E4 := Aside0.mk e4
      have E5 := Aside0.mk e5
      have E6 := Aside0.mk e6
      have E7 := Aside0.mk e7
      have E8 := Aside0.mk e8
      have E9 := Aside0.mk e9
      have E10 := Aside0.mk e10
      have E11 := Aside0.mk e11
      have E12 := Aside0.mk e12
      have E13 := Aside0.mk e13
      have E14 := Aside0.mk e14
      have E15 := Aside0.mk e15
      clear e0 e1 e2 e3 e4 e5 e6 e7 e8 e9 e10 e11 e12 e13 e14 e15
      have hf : ∀ j, wo.frozen? ⟨w.heap.size, j, none⟩ = false := fun j => hb_free HG.out j
      go_wp2
      exact bodyPost_ret (crc_More.half_res _ _ _ (crc_More.set_same (crc_More.set_same (crc_More.set_same (crc_More.set_same (crc_More.set_same (crc_More.set_same (crc_More.set_same (crc_More.set_same (crc_More.set_same (crc_More.set_same (crc_More.set_same (crc_More.set_same (crc_More.set_same (crc_More.set_same (crc_More.set_same (crc_More.set_same HG.out 0 _ (by rw [← E0.out]; exact (crc_More.tab_at 16 0 (by decide)).trans (by rw [if_pos (by decide)]))) 1 _ (by rw [← E1.out]; exact (crc_More.tab_at 16 1 (by decide)).trans (by rw [if_pos (by decide)]))) 2 _ (by rw [← E2.out]; exact (crc_More.tab_at 16 2 (by decide)).trans (by rw [if_pos (by decide)]))) 3 _ (by rw [← E3.out]; exact (crc_More.tab_at 16 3 (by decide)).trans (by rw [if_pos (by decide)]))) 4 _ (by rw [← E4.out]; exact (crc_More.tab_at 16 4 (by decide)).trans (by rw [if_pos (by decide)]))) 5 _ (by rw [← E5.out]; exact (crc_More.tab_at 16 5 (by decide)).trans (by rw [if_pos (by decide)]))) 6 _ (by rw [← E6.out]; exact (crc_More.tab_at 16 6 (by decide)).trans (by rw [if_pos (by decide)]))) 7 _ (by rw [← E7.out]; exact (crc_More.tab_at 16 7 (by decide)).trans (by rw [if_pos (by decide)]))) 8 _ (by rw [← E8.out]; exact (crc_More.tab_at 16 8 (by decide)).trans (by rw [if_pos (by decide)]))) 9 _ (by rw [← E9.out]; exact (crc_More.tab_at 16 9 (by decide)).trans (by rw [if_pos (by decide)]))) 10 _ (by rw [← E10.out]; exact (crc_More.tab_at 16 10 (by decide)).trans (by rw [if_pos (by decide)]))) 11 _ (by rw [← E11.out]; exact (crc_More.tab_at 16 11 (by decide)).trans (by rw [if_pos (by decide)]))) 12 _ (by rw [← E12.out]; exact (crc_More.tab_at 16 12 (by decide)).trans (by rw [if_pos (by decide)]))) 13 _ (by rw [← E13.out]; exact (crc_More.tab_at 16 13 (by decide)).trans (by rw [if_pos (by decide)]))) 14 _ (by rw [← E14.out]; exact (crc_More.tab_at 16 14 (by decide)).trans (by rw [if_pos (by decide)]))) 15 _ (by rw [← E15.out]; exact (crc_More.tab_at 16 15 (by decide)).trans (by rw [if_pos (by decide)])))) rfl ⟨rfl, (below_set (below_set (below_set (below_set (below_set (below_set (below_set (below_set (below_set (below_set (below_set (below_set (below_set (below_set (below_set (below_set HBW.out (Nat.le_refl _)) (Nat.le_refl _)) (Nat.le_refl _)) (Nat.le_refl _)) (Nat.le_refl _)) (Nat.le_refl _)) (Nat.le_refl _)) (Nat.le_refl _)) (Nat.le_refl _)) (Nat.le_refl _)) (Nat.le_refl _)) (Nat.le_refl _)) (Nat.le_refl _)) (Nat.le_refl _)) (Nat.le_refl _)) (Nat.le_refl _))⟩
end Go.Proofs.Ytkoljefjdnlciaa.Hy
