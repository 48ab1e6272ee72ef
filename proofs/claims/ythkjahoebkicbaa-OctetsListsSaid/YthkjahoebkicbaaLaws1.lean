/- The pure statements of layer 1's laws, but for OctetsJoins. -/
import Derived.Test.YthkjahoebkicbaaNice1
import Derived.Test.YthkjahoebkicbaaOct
namespace Go.Proofs.Ythkjahoebkicbaa.Hy
open Go.RowKit Go.Proofs.YthkjahoebkicbaaW.PrintWords Go.Proofs.YthkjahoebkicbaaW.PrintLast Go.Proofs.YthkjahoebkicbaaW.PrintMore

theorem octets_Get.nice (l : List Int) (at_ size : Int) (hb : Pl.BY l) (ha : -9223372036854775808 ≤ at_ ∧ at_ < 9223372036854775808) : octets_Get.f l at_ size = some (Pl.getS l at_ size) := by
  unfold octets_Get.f
  rw [if_pos ⟨hb, by omega, by omega⟩]
theorem octets_Read.nice (l : List Int) (at_ : Int) (hb : Pl.BY l) (hl : l.length ≤ 9223372036854775000) (ha : -9223372036854775808 ≤ at_ ∧ at_ < 9223372036854775808) : octets_Read.f l at_ = some (Pl.readS l at_) := by
  unfold octets_Read.f
  rw [if_pos ⟨hb, by omega, by omega, hl⟩]
theorem flagstoneref01_Read.nice (l : List Int) (at_ : Int) (hb : Pl.BY l) (hl : l.length ≤ 9223372036854775000) (ha : -9223372036854775808 ≤ at_ ∧ at_ < 9223372036854775808) : flagstoneref01_Read.f l at_ = some (Pl.readS l at_) := by
  unfold flagstoneref01_Read.f
  rw [if_pos ⟨hb, by omega, by omega, hl⟩]
theorem octets_Unpack.nice (ws l : List Int) (hb : Pl.BY l) : octets_Unpack.f ws l = some (Pl.unpackS ws l) := by
  unfold octets_Unpack.f
  exact if_pos hb
theorem flagstoneplain_SameBytes.nice (a b : List Int) (ha : Pl.BY a) (hb : Pl.BY b) : flagstoneplain_SameBytes.f a b = some (a == b) := by
  unfold flagstoneplain_SameBytes.f
  rw [Pl.strOf_eq ha hb]
theorem flagstonelaw01_num.nice (x : Int) : flagstonelaw01_num.f x = some x := rfl
theorem flagstonelaw01_alive.nice (k : Nat) (hk : 12 ≤ k) : flagstonelaw01_alive.f k = some true := by
  unfold flagstonelaw01_alive.f
  have hby : Pl.BY [9, 2, 97, 98] := by intro x hx; simp at hx; omega
  rw [octets_Put.nice k 258 2 (by omega) (by omega) hk, octets_Read.nice _ _ hby (by decide) (by omega)]
  have e1 : Pl.putS 258 2 = ([2, 1], 0) := by decide
  have e2 : Pl.readS [9, 2, 97, 98] 1 = (⟨#[97, 98]⟩, 4, 0) := by rfl
  rw [e1, e2]
  simp only [Option.bind_some, flagstonelaw01_num.nice]
  rw [if_pos (by rw [Pl.w64 (by omega) (by omega)]; rfl), if_pos (by rw [Pl.strOf_list]; decide), if_pos (by rw [ByteArray.toList_eq])]
  rfl
theorem flagstoneplain_Spoil.some_ (d : Nat) : ∀ (k : Nat) (l : List Int) (i : Nat), l.length - i = d → i ≤ l.length → d < k → (l.length : Int) ≤ 9223372036854775000 → ∃ r, flagstoneplain_Spoil.l0 k l (i : Int) = some r ∧ r.length = l.length := by
  induction d with
  | zero =>
    intro k l i hd hi hk hm
    obtain ⟨k, rfl⟩ : ∃ j, k = j + 1 := ⟨k - 1, by omega⟩
    refine ⟨l, ?_, rfl⟩
    simp only [flagstoneplain_Spoil.l0]
    rw [if_neg (by omega)]
  | succ d ih =>
    intro k l i hd hi hk hm
    obtain ⟨k, rfl⟩ : ∃ j, k = j + 1 := ⟨k - 1, by omega⟩
    have e1 : wrap64 ((i : Int) + 1) = ((i + 1 : Nat) : Int) := by rw [Pl.w64 (by omega) (by omega)]; omega
    obtain ⟨r, hr, hl⟩ := ih k (l.set (i : Int).toNat (Go.bits .xor .u8 IntKind.u8.max (rd l i))) (i + 1) (by simp; omega) (by simp; omega) (by omega) (by simpa using hm)
    refine ⟨r, ?_, by simpa using hl⟩
    simp only [flagstoneplain_Spoil.l0]
    rw [if_pos (by omega), if_pos (by omega), e1]
    exact hr
theorem flagstoneplain_Spoil.nice (k : Nat) (l : List Int) (hk : l.length < k) (hm : (l.length : Int) ≤ 9223372036854775000) : ∃ r, flagstoneplain_Spoil.f k l = some r := by
  obtain ⟨r, h, _⟩ := flagstoneplain_Spoil.some_ l.length k l 0 (by omega) (by omega) hk hm
  exact ⟨r, h⟩

theorem pure_OctetsApart : flagstonelaw01_OctetsApart.Pure := by
  intro a b size wa wb ws
  obtain ⟨ha0, ha1⟩ := Pl.wf_u64 wa
  obtain ⟨hb0, hb1⟩ := Pl.wf_u64 wb
  refine ⟨20, ?_⟩
  unfold flagstonelaw01_OctetsApart.f
  rw [flagstonelaw01_alive.nice 20 (by omega), octets_Put.nice 20 a size ha0 ha1 (by omega), octets_Put.nice 20 b size hb0 hb1 (by omega)]
  simp only [Option.bind_some, flagstonelaw01_num.nice, if_true]
  by_cases h1 : (Pl.putS a size).2 = 0
  · rw [if_pos h1]
    by_cases h2 : (Pl.putS b size).2 = 0
    · rw [if_pos h2, flagstoneplain_SameBytes.nice _ _ (Pl.BY_putS _ _) (Pl.BY_putS _ _)]
      obtain ⟨_, hf1, e1⟩ := Pl.putS_ok h1
      obtain ⟨_, hf2, e2⟩ := Pl.putS_ok h2
      rw [e1, e2]
      simp only [Option.bind_some]
      congr 1
      by_cases he : a = b
      · simp [he]
      · have : Pl.putI size.toNat a ≠ Pl.putI size.toNat b := fun h => he (Pl.putI_inj _ a b ha0 hb0 hf1 hf2 h)
        rw [beq_eq_false_iff_ne.2 this, beq_eq_false_iff_ne.2 he]
        rfl
    · rw [if_neg h2, Pl.putS_bad h2]
      split <;> rfl
  · rw [if_neg h1, Pl.putS_bad h1]
    rfl

theorem pure_OctetsTells : flagstonelaw01_OctetsTells.Pure := by
  intro n size b at_ s wn wsz hb1 hb2 hb3 wat hs
  obtain ⟨hn0, hn1⟩ := Pl.wf_u64 wn
  have hsz := Pl.wf_i64 wsz
  have hat := Pl.wf_i64 wat
  have hby := Pl.BY_of_wf hb3
  refine ⟨20, ?_⟩
  unfold flagstonelaw01_OctetsTells.f
  rw [flagstoneplain_CopyBytes.nice b (by omega)]
  simp only [Option.bind_some]
  rw [octets_Put.nice 20 n size hn0 hn1 (by omega), flagstoneref01_Put.nice 20 n size hn0 hn1 (by omega), octets_Get.nice b at_ size hby (by omega), flagstoneref01_Get.nice 20 b at_ size hby (by omega) hsz hat (by omega), octets_Text.nice, flagstoneref01_Text.nice, octets_Read.nice b at_ hby (by omega) (by omega), flagstoneref01_Read.nice b at_ hby (by omega) (by omega)]
  simp only [Option.bind_some, flagstonelaw01_num.nice]
  rw [flagstoneplain_SameBytes.nice _ _ (Pl.BY_putS _ _) (Pl.BY_putS _ _)]
  simp only [Option.bind_some, beq_self_eq_true, if_true]
  rw [flagstoneplain_SameBytes.nice _ _ (Pl.BY_textS _) (Pl.BY_textS _)]
  simp only [Option.bind_some, beq_self_eq_true, if_true, bne_self_eq_false, flagstonelaw01_OctetsTells.j0, Bool.false_eq_true, if_false, flagstonelaw01_num.nice]
  rw [flagstoneplain_SameBytes.nice _ _ hby hby]
  simp only [Option.bind_some, beq_self_eq_true, if_true]
  rw [flagstonelaw01_alive.nice 19 (by omega)]
  rfl

theorem pure_OctetsBack : flagstonelaw01_OctetsBack.Pure := by
  intro n size s head wn wsz hs hb1 hb2 hb3
  obtain ⟨hn0, hn1⟩ := Pl.wf_u64 wn
  have hsz := Pl.wf_i64 wsz
  have hby := Pl.BY_of_wf hb3
  refine ⟨21, ?_⟩
  have hj : flagstonelaw01_OctetsBack.j0 21 s head = some true := by
    simp only [flagstonelaw01_OctetsBack.j0]
    rw [octets_Text.nice]
    simp only [Option.bind_some, flagstonelaw01_num.nice]
    by_cases ht : (Pl.textS s).2 = 0
    · have h255 : s.size ≤ 255 := by
        unfold Pl.textS at ht
        by_cases h : s.size > 255
        · rw [if_pos h] at ht; cases ht
        · omega
      have hlen : (Pl.textS s).1.length = 1 + s.size := by
        unfold Pl.textS
        rw [if_neg (by omega)]
        simp [Pl.bytesOf_length]
        omega
      rw [if_pos ht, flagstoneplain_CopyBytes.nice head (by omega)]
      simp only [Option.bind_some]
      rw [if_pos (by omega), octets_Read.nice _ _ (Pl.BY_append hby (Pl.BY_textS s)) (by rw [List.length_append]; omega) (by omega), Pl.textS_read s head h255]
      simp only [Option.bind_some, if_true]
      rw [hlen, Pl.w64 (by omega) (by omega)]
      congr 1
      rw [beq_iff_eq]
      omega
    · have : (Pl.textS s).1 = [] := by
        unfold Pl.textS at ht ⊢
        by_cases h : s.size > 255
        · rw [if_pos h]
        · rw [if_neg h] at ht; exact absurd rfl ht
      rw [if_neg ht, this]
      rfl
  unfold flagstonelaw01_OctetsBack.f
  rw [flagstonelaw01_alive.nice 21 (by omega), octets_Put.nice 21 n size hn0 hn1 (by omega)]
  simp only [Option.bind_some, if_true, flagstonelaw01_num.nice]
  by_cases h1 : (Pl.putS n size).2 = 0
  · obtain ⟨h2, h3, h4⟩ := Pl.putS_ok h1
    have hlen : (Pl.putS n size).1.length = size.toNat := by rw [h4, Pl.putI_length]
    rw [if_pos h1, flagstoneplain_CopyBytes.nice head (by omega)]
    simp only [Option.bind_some]
    rw [if_pos (by omega), octets_Get.nice _ _ _ (Pl.BY_append hby (Pl.BY_putS n size)) (by omega)]
    have hg : Pl.getS (head ++ (Pl.putS n size).1) (head.length : Int) size = (n, 0) := by
      unfold Pl.getS
      rw [if_neg (by omega), if_neg (by omega), if_neg (by rw [List.length_append]; omega), Int.toNat_natCast, List.drop_left, h4, List.take_of_length_le (by rw [Pl.putI_length]; omega), Pl.leI_put _ _ hn0 h3]
    rw [hg]
    simp only [Option.bind_some, if_true]
    rw [if_pos (by omega)]
    exact hj
  · rw [if_neg h1, Pl.putS_bad h1]
    exact hj

theorem pure_OctetsOwn : flagstonelaw01_OctetsOwn.Pure := by
  intro ws b at_ hw1 hw2 hw3 hb1 hb2 hb3 wat
  have hat := Pl.wf_i64 wat
  have hby := Pl.BY_of_wf hb3
  refine ⟨b.length + 300, ?_⟩
  obtain ⟨r, hr⟩ := flagstoneplain_Spoil.nice (b.length + 300) b (by omega) (by omega)
  unfold flagstonelaw01_OctetsOwn.f
  rw [flagstonelaw01_alive.nice _ (by omega), flagstoneplain_CopyBytes.nice b (by omega)]
  simp only [Option.bind_some, if_true]
  rw [octets_Unpack.nice ws b hby, octets_Read.nice b at_ hby (by omega) (by omega), hr, flagstoneref01_Unpack.nice _ ws b hby (by omega) (by omega), flagstoneref01_Read.nice b at_ hby (by omega) (by omega)]
  simp only [Option.bind_some, if_true, flagstonelaw01_num.nice]
  have hl : (Pl.unpackS ws b).1.length ≤ ws.length := by
    by_cases h : (Pl.unpackS ws b).2 = 0
    · rw [(Pl.unpackS_ok h).2.2.2, Pl.unpackGo_length]; omega
    · rw [Pl.unpackS_bad h]; simp
  have hl2 : (Pl.unpackS ws b).1.length ≤ 64 := by
    by_cases h : (Pl.unpackS ws b).2 = 0
    · rw [(Pl.unpackS_ok h).2.2.2, Pl.unpackGo_length]; exact (Pl.unpackS_ok h).1
    · rw [Pl.unpackS_bad h]; simp
  rw [flagstoneplain_SameNumbers.nice _ _ _ (by omega) (by omega)]
  simp

theorem pure_OctetsLists : flagstonelaw01_OctetsLists.Pure := by
  intro ws vs b hw1 hw2 hw3 hv1 hv2 hv3 hb1 hb2 hb3
  have hby := Pl.BY_of_wf hb3
  have hvs := Pl.U64_of_wf hv3
  refine ⟨300, ?_⟩
  have hl2 : (Pl.unpackS ws b).1.length ≤ 64 := by
    by_cases h : (Pl.unpackS ws b).2 = 0
    · rw [(Pl.unpackS_ok h).2.2.2, Pl.unpackGo_length]; exact (Pl.unpackS_ok h).1
    · rw [Pl.unpackS_bad h]; simp
  have hbp : Pl.BY (Pl.packS ws vs).1 := by
    by_cases h : (Pl.packS ws vs).2 = 0
    · rw [(Pl.packS_ok (fun v hv => (hvs v hv).1) h).2.2]; exact Pl.BY_flat _ _
    · rw [Pl.packS_bad h]; exact Pl.BY_nil
  unfold flagstonelaw01_OctetsLists.f
  rw [flagstoneplain_CopyBytes.nice b (by omega)]
  simp only [Option.bind_some]
  rw [octets_Pack.nice 300 ws vs hvs (by omega), flagstoneref01_Pack.nice 300 ws vs hvs (by omega), octets_Unpack.nice ws b hby, flagstoneref01_Unpack.nice _ ws b hby (by omega) (by omega)]
  simp only [Option.bind_some, flagstonelaw01_num.nice]
  rw [flagstoneplain_SameBytes.nice _ _ hbp hbp, flagstoneplain_SameNumbers.nice _ _ _ (by omega) (by omega), flagstoneplain_SameBytes.nice _ _ hby hby, flagstonelaw01_alive.nice _ (by omega)]
  simp

theorem pure_OctetsUnpacks : flagstonelaw01_OctetsUnpacks.Pure := by
  intro ws vs b hw1 hw2 hw3 hv1 hv2 hv3 hb1 hb2 hb3
  have hby := Pl.BY_of_wf hb3
  have hvs := Pl.U64_of_wf hv3
  refine ⟨300, ?_⟩
  have hj : flagstonelaw01_OctetsUnpacks.j0 300 ws b = some true := by
    simp only [flagstonelaw01_OctetsUnpacks.j0]
    rw [octets_Unpack.nice ws b hby]
    simp only [Option.bind_some, flagstonelaw01_num.nice]
    by_cases h : (Pl.unpackS ws b).2 = 0
    · obtain ⟨h64, hok, hlen, he⟩ := Pl.unpackS_ok h
      obtain ⟨hf, hfl⟩ := Pl.pack_unpack ws b hok hby hlen
      have hu : ∀ v ∈ Pl.unpackGo ws b, 0 ≤ v ∧ v < 18446744073709551616 := by
        clear h64 hlen he h hby hfl
        generalize Pl.unpackGo ws b = us at hf
        induction ws generalizing us with
        | nil => cases us with
          | nil => intro v hv; cases hv
          | cons _ _ => exact hf.elim
        | cons w ws ih => cases us with
          | nil => exact hf.elim
          | cons u us =>
            obtain ⟨⟨h1, h2, h3, h4⟩, h5⟩ := hf
            intro v hv
            rcases List.mem_cons.1 hv with rfl | hv
            · have := Pl.pow8 (k := w.toNat) (by omega)
              omega
            · exact ih (by simp at hw1 ⊢; omega) (by simp at hw2 ⊢; omega) (fun x hx => hw3 x (List.mem_cons_of_mem _ hx)) (by simp only [Pl.okW, List.all_cons, Bool.and_eq_true] at hok ⊢; exact hok.2) us h5 v hv
      rw [if_pos h, he, octets_Pack.nice 299 ws _ hu (by omega), Pl.packS_fits h64 hf]
      simp only [Option.bind_some, if_true]
      rw [hfl, flagstoneplain_SameBytes.nice _ _ hby hby]
      simp
    · rw [if_neg h, Pl.unpackS_bad h]
      rfl
  unfold flagstonelaw01_OctetsUnpacks.f
  rw [flagstonelaw01_alive.nice _ (by omega), octets_Pack.nice 300 ws vs hvs (by omega)]
  simp only [Option.bind_some, if_true, flagstonelaw01_num.nice]
  by_cases h : (Pl.packS ws vs).2 = 0
  · obtain ⟨h64, hf, he⟩ := Pl.packS_ok (fun v hv => (hvs v hv).1) h
    have hfl := Pl.flat_len hf
    have hv := Pl.fits_len hf
    rw [if_pos h, he, octets_Unpack.nice ws _ (Pl.BY_flat _ _), Pl.unpackS_val h64 (Pl.fits_okW hf), if_neg (by omega), if_neg (by omega), Pl.unpack_flat hf]
    simp only [Option.bind_some, if_true]
    rw [flagstoneplain_SameNumbers.nice _ _ _ (by omega) (by omega)]
    simp [hj]
  · rw [if_neg h]
    exact hj

theorem pure_OctetsCut : flagstonelaw01_OctetsCut.Pure := by
  intro ws vs s at_ hw1 hw2 hw3 hv1 hv2 hv3 hs wat
  have hvs := Pl.U64_of_wf hv3
  refine ⟨300, ?_⟩
  have hj1 : ∀ k, flagstonelaw01_OctetsCut.j1 (k + 2) s at_ = some true := by
    intro k
    simp only [flagstonelaw01_OctetsCut.j1]
    rw [octets_Text.nice]
    simp only [Option.bind_some, flagstonelaw01_num.nice]
    by_cases ht : (Pl.textS s).2 = 0
    · have h255 : s.size ≤ 255 := by
        unfold Pl.textS at ht
        by_cases h : s.size > 255
        · rw [if_pos h] at ht; cases ht
        · omega
      have hlen : (Pl.textS s).1.length = 1 + s.size := by
        unfold Pl.textS
        rw [if_neg (by omega)]
        simp [Pl.bytesOf_length]
        omega
      have hz : (((Pl.textS s).1.length : Int) == 0) = false := by rw [beq_eq_false_iff_ne]; omega
      have hm := Pl.mod_range at_ (Pl.textS s).1.length (by omega) (by omega)
      rw [if_pos ht, hz]
      simp only [flagstonelaw01_OctetsCut.j2, Bool.false_eq_true, if_false]
      obtain ⟨m, hmm⟩ := Pl.nat_of hm.1
      rw [hmm] at hm ⊢
      rw [if_neg (by omega), if_pos (by omega), if_pos (by omega), Int.toNat_natCast, octets_Read.nice _ _ (Pl.BY_take (Pl.BY_textS s) m) (by rw [List.length_take]; omega) (by omega), Pl.textS_cut s m h255 (by omega)]
      rfl
    · have : (Pl.textS s).1 = [] := by
        unfold Pl.textS at ht ⊢
        by_cases h : s.size > 255
        · rw [if_pos h]
        · rw [if_neg h] at ht; exact absurd rfl ht
      rw [if_neg ht, this]
      rfl
  unfold flagstonelaw01_OctetsCut.f
  rw [flagstonelaw01_alive.nice _ (by omega), octets_Pack.nice 300 ws vs hvs (by omega)]
  simp only [Option.bind_some, if_true, flagstonelaw01_num.nice]
  by_cases h : (Pl.packS ws vs).2 = 0
  · obtain ⟨h64, hf, he⟩ := Pl.packS_ok (fun v hv => (hvs v hv).1) h
    have hfl := Pl.flat_len hf
    have hok := Pl.fits_okW hf
    have hs8 := (Pl.sum_ok hok).2
    have hby := Pl.BY_flat ws vs
    rw [if_pos h, he]
    by_cases hp : ((Pl.flat ws vs).length : Int) > 0
    · rw [decide_eq_true hp]
      have hm := Pl.mod_range at_ (Pl.flat ws vs).length (by omega) (by omega)
      obtain ⟨m, hmm⟩ := Pl.nat_of hm.1
      simp only [flagstonelaw01_OctetsCut.j0, if_true]
      rw [hmm] at hm ⊢
      have hu1 : Pl.unpackS ws ((Pl.flat ws vs).take m) = ([], 8) := by
        rw [Pl.unpackS_val h64 hok, if_pos (by rw [List.length_take]; omega)]
      have hu2 : Pl.unpackS ws (Pl.flat ws vs ++ [0]) = ([], 23) := by
        rw [Pl.unpackS_val h64 hok, if_neg (by rw [List.length_append]; omega), if_pos (by rw [List.length_append]; simp; omega)]
      rw [if_neg (by omega), if_pos (by omega), if_pos (by omega), Int.toNat_natCast, octets_Unpack.nice _ _ (Pl.BY_take hby m), flagstoneplain_CopyBytes.nice _ (by omega), hu1]
      simp only [Option.bind_some]
      rw [if_pos (by omega), octets_Unpack.nice _ _ (Pl.BY_append hby (Pl.BY_cons (by omega) Pl.BY_nil)), hu2]
      simp only [Option.bind_some]
      exact hj1 297
    · rw [decide_eq_false hp]
      simp only [flagstonelaw01_OctetsCut.j0, Bool.false_eq_true, if_false]
      exact hj1 297
  · rw [if_neg h]
    simp only [flagstonelaw01_OctetsCut.j0, Bool.false_eq_true, if_false]
    exact hj1 297
end Go.Proofs.Ythkjahoebkicbaa.Hy
