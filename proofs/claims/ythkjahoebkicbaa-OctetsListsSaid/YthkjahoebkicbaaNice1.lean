/- What the printed functions of layer 1 come to, in plain words. -/
import Derived.Test.YthkjahoebkicbaaH
import Derived.Test.YthkjahoebkicbaaPl
namespace Go.Proofs.Ythkjahoebkicbaa.Hy
open Go.RowKit Go.Proofs.YthkjahoebkicbaaW.PrintWords Go.Proofs.YthkjahoebkicbaaW.PrintLast Go.Proofs.YthkjahoebkicbaaW.PrintMore
theorem octets_Put.loop (n : Int) (hn : 0 ≤ n) (m : Nat) (hm : m ≤ 8) (d : Nat) : ∀ (k i : Nat), m - i = d → i ≤ m → d < k →
    octets_Put.l0 k n (Pl.putI i n ++ List.replicate (m - i) 0) (m : Int) (i : Int) = some (Pl.putI m n, 0) := by
  induction d with
  | zero =>
    intro k i hd hi hk
    obtain ⟨k, rfl⟩ : ∃ j, k = j + 1 := ⟨k - 1, by omega⟩
    obtain rfl : i = m := by omega
    simp only [octets_Put.l0]
    rw [if_neg (by omega)]
    simp
  | succ d ih =>
    intro k i hd hi hk
    obtain ⟨k, rfl⟩ : ∃ j, k = j + 1 := ⟨k - 1, by omega⟩
    have e8 : wrap64 (8 * (i : Int)) = 8 * (i : Int) := Pl.w64 (by omega) (by omega)
    have e1 : wrap64 ((i : Int) + 1) = ((i + 1 : Nat) : Int) := by rw [Pl.w64 (by omega) (by omega)]; omega
    simp only [octets_Put.l0]
    rw [if_pos (by omega), e8, if_pos (by omega), if_pos (by omega), if_pos (by simp [Pl.putI_length]; omega), e1, Pl.shr_u64 n _ i rfl (by omega)]
    have hr : m - i = (m - (i + 1)) + 1 := by omega
    have hs : (Pl.putI i n ++ List.replicate (m - i) 0).set ((i : Int)).toNat (n / 256 ^ i % 256) = Pl.putI (i + 1) n ++ List.replicate (m - (i + 1)) 0 := by
      rw [Int.toNat_natCast, List.set_append_right _ _ (by rw [Pl.putI_length]; omega), Pl.putI_length, Nat.sub_self, hr, List.replicate_succ, List.set_cons_zero, Pl.putI_snoc _ _ hn, List.append_assoc]
      rfl
    rw [hs]
    exact ih k (i + 1) (by omega) (by omega) (by omega)
theorem octets_Put.nice (k : Nat) (n size : Int) (hn : 0 ≤ n) (hn2 : n < 18446744073709551616) (hk : 12 ≤ k) : octets_Put.f k n size = some (Pl.putS n size) := by
  obtain ⟨k, rfl⟩ : ∃ j, k = j + 2 := ⟨k - 2, by omega⟩
  unfold octets_Put.f Pl.putS
  by_cases h1 : size < 1
  · rw [if_pos h1, if_pos (.inl h1)]
    simp only [octets_Put.j0]
    rw [if_pos trivial]
  · rw [if_neg h1]
    by_cases h8 : size > 8
    · rw [if_pos (.inr h8), decide_eq_true h8]
      simp only [octets_Put.j0]
      rw [if_pos trivial]
    · rw [decide_eq_false h8, if_neg (by omega)]
      obtain ⟨m, rfl⟩ := Pl.nat_of (show 0 ≤ size by omega)
      have e8 : wrap64 (8 * (m : Int)) = 8 * (m : Int) := Pl.w64 (by omega) (by omega)
      have hloop := octets_Put.loop n hn m (by omega) m k 0 (by omega) (by omega) (by omega)
      have hlen : ((List.replicate ((m : Nat) : Int).toNat (0 : Int)).length : Int) = (m : Int) := by simp
      simp only [octets_Put.j0, Bool.false_eq_true, if_false]
      rw [e8]
      simp only [Int.toNat_natCast]
      have hrest : (if (0 : Int) ≤ (m : Int) then if m ≤ 281474976710656 then (some (List.replicate m (0 : Int))).bind fun y101 => octets_Put.l0 k n y101 (y101.length : Int) 0 else none else none) = some (Pl.putI m n, 0) := by
        rw [if_pos (by omega), if_pos (by omega)]
        simp only [Option.bind_some, List.length_replicate]
        simpa [Pl.putI, Fs.put, Pl.ofB] using hloop
      by_cases h7 : (m : Int) < 8
      · rw [if_pos h7, if_pos (by omega), Pl.shr_u64 n _ m rfl (by omega)]
        by_cases hb : (256 : Int) ^ m ≤ n
        · have hq : n / 256 ^ m ≠ 0 := by
            have hp : (0 : Int) < 256 ^ m := Int.pow_pos (by omega)
            have := (Int.le_ediv_iff_mul_le hp (a := 1) (b := n)).2 (by omega)
            omega
          have hq' : (n / 256 ^ m != 0) = true := by simpa using hq
          rw [if_pos hb, hq']
          simp only [octets_Put.j1]
          rw [if_pos trivial]
        · have hq : n / 256 ^ m = 0 := Int.ediv_eq_zero_of_lt hn (by omega)
          rw [if_neg hb, hq]
          simp only [octets_Put.j1, bne_self_eq_false, Bool.false_eq_true, if_false, Int.toNat_natCast]
          exact hrest
      · have hm8 : m = 8 := by omega
        have hlt : ¬ (256 : Int) ^ m ≤ n := by rw [hm8]; simp; omega
        rw [if_neg h7, if_neg hlt]
        simp only [octets_Put.j1, Bool.false_eq_true, if_false, Int.toNat_natCast]
        exact hrest

theorem flagstoneref01_Put.loop (size : Int) (m : Nat) (hs : size = (m : Int)) (hm : m ≤ 8) (d : Nat) : ∀ (k i : Nat) (n : Int) (acc : List Int), 0 ≤ n → n < 18446744073709551616 → m - i = d → i ≤ m → d < k → acc.length = i →
    flagstoneref01_Put.l0 k n size acc (i : Int) = some (if 256 ^ d ≤ n then ([], 4) else (acc ++ Pl.putI d n, 0)) := by
  subst hs
  induction d with
  | zero =>
    intro k i n acc h0 h1 hd hi hk ha
    obtain ⟨k, rfl⟩ : ∃ j, k = j + 1 := ⟨k - 1, by omega⟩
    obtain rfl : i = m := by omega
    simp only [flagstoneref01_Put.l0]
    rw [if_neg (by omega)]
    by_cases hn : n > 0
    · rw [if_pos hn, if_pos (by simp; omega)]
    · rw [if_neg hn, if_neg (by simp; omega)]
      simp [Pl.putI, Fs.put, Pl.ofB]
  | succ d ih =>
    intro k i n acc h0 h1 hd hi hk ha
    obtain ⟨k, rfl⟩ : ∃ j, k = j + 1 := ⟨k - 1, by omega⟩
    have e1 : wrap64 ((i : Int) + 1) = ((i + 1 : Nat) : Int) := by rw [Pl.w64 (by omega) (by omega)]; omega
    have e2 : Int.tdiv n 256 = n / 256 := Int.tdiv_eq_ediv_of_nonneg h0
    have e3 : Int.tmod n 256 = n % 256 := Int.tmod_eq_emod_of_nonneg h0
    have e4 : IntKind.u64.wrap (n / 256) = n / 256 := Pl.u64w (by omega) (by omega)
    simp only [flagstoneref01_Put.l0]
    rw [if_pos (by omega), if_pos (by omega), e1, e2, e3, e4, ih k (i + 1) (n / 256) _ (by omega) (by omega) (by omega) (by omega) (by omega) (by simp [ha])]
    have e5 : (256 : Int) ^ (d + 1) ≤ n ↔ 256 ^ d ≤ n / 256 := by
      rw [Int.pow_succ, Int.le_ediv_iff_mul_le (by omega)]
    by_cases hb : (256 : Int) ^ d ≤ n / 256
    · rw [if_pos hb, if_pos (e5.2 hb)]
    · rw [if_neg hb, if_neg (fun h => hb (e5.1 h))]
      congr 2
      rw [List.append_assoc]
      congr 1
      obtain ⟨a, rfl⟩ := Pl.nat_of h0
      simp only [Pl.putI, Int.toNat_natCast, Fs.put, Pl.ofB, List.map_cons, List.singleton_append]
      simp only [UInt8.toNat_ofNat']
      congr 1
theorem flagstoneref01_Put.nice (k : Nat) (n size : Int) (hn : 0 ≤ n) (hn2 : n < 18446744073709551616) (hk : 12 ≤ k) : flagstoneref01_Put.f k n size = some (Pl.putS n size) := by
  obtain ⟨k, rfl⟩ : ∃ j, k = j + 1 := ⟨k - 1, by omega⟩
  unfold flagstoneref01_Put.f Pl.putS
  by_cases h1 : size < 1
  · rw [if_pos h1, if_pos (.inl h1)]
    simp only [flagstoneref01_Put.j0]
    rw [if_pos trivial]
  · rw [if_neg h1]
    by_cases h8 : size > 8
    · rw [if_pos (.inr h8), decide_eq_true h8]
      simp only [flagstoneref01_Put.j0]
      rw [if_pos trivial]
    · rw [decide_eq_false h8, if_neg (by omega)]
      obtain ⟨m, rfl⟩ := Pl.nat_of (show 0 ≤ size by omega)
      simp only [flagstoneref01_Put.j0, Bool.false_eq_true, if_false, Int.toNat_natCast]
      have := flagstoneref01_Put.loop (m : Int) m rfl (by omega) m k 0 n [] hn hn2 (by omega) (by omega) (by omega) rfl
      simpa using this
theorem flagstoneref01_Get.loop (l : List Int) (hb : Pl.BY l) (hl : (l.length : Int) ≤ 9223372036854775000) (a m : Nat) (hm : m ≤ 8) (ham : a + m ≤ l.length) (d : Nat) : ∀ (k : Nat) (x : Int), d ≤ m → d < k → x = Pl.leI (((l.drop a).take m).drop d) →
    flagstoneref01_Get.l0 k l (a : Int) x ((d : Int) - 1) = some (Pl.leI ((l.drop a).take m), 0) := by
  induction d with
  | zero =>
    intro k x hd hk hx
    obtain ⟨k, rfl⟩ : ∃ j, k = j + 1 := ⟨k - 1, by omega⟩
    simp only [flagstoneref01_Get.l0]
    rw [if_neg (by omega), hx]
    simp
  | succ d ih =>
    intro k x hd hk hx
    obtain ⟨k, rfl⟩ : ∃ j, k = j + 1 := ⟨k - 1, by omega⟩
    have e1 : wrap64 ((a : Int) + (((d + 1 : Nat) : Int) - 1)) = ((a + d : Nat) : Int) := by rw [Pl.w64 (by omega) (by omega)]; omega
    have e2 : wrap64 (((d + 1 : Nat) : Int) - 1 - 1) = (d : Int) - 1 := by rw [Pl.w64 (by omega) (by omega)]; omega
    have hbd := Pl.BY_at hb (a + d)
    have hlen : (((l.drop a).take m).drop (d + 1)).length = m - (d + 1) := by rw [List.length_drop, List.length_take, List.length_drop]; omega
    have hx0 : 0 ≤ x := by rw [hx]; exact Pl.leI_nonneg _
    have hx1 : x < 256 ^ 7 := by
      have h7 : (256 : Nat) ^ (m - (d + 1)) ≤ 256 ^ 7 := Nat.pow_le_pow_right (by omega) (by omega)
      have := Pl.leI_lt (((l.drop a).take m).drop (d + 1))
      rw [hlen, ← hx, ← Pl.pow256] at this
      have h8 := Int.ofNat_le.2 h7
      rw [Pl.pow256 7] at h8
      omega
    have e3 : IntKind.u64.wrap (256 * x) = 256 * x := Pl.u64w (by omega) (by omega)
    have e4 : IntKind.u64.wrap (rd l ((a + d : Nat) : Int)) = l.getD (a + d) 0 := by rw [Pl.rd_nat]; exact Pl.u64w (by omega) (by omega)
    have e5 : IntKind.u64.wrap (256 * x + l.getD (a + d) 0) = 256 * x + l.getD (a + d) 0 := Pl.u64w (by omega) (by omega)
    simp only [flagstoneref01_Get.l0]
    rw [if_pos (by omega), e1, if_pos (by omega), if_pos (by omega), e3, e4, e5, e2]
    apply ih k _ (by omega) (by omega)
    have hdl : d < ((l.drop a).take m).length := by rw [List.length_take, List.length_drop]; omega
    rw [Pl.drop_cons _ d hdl]
    have hg : ((l.drop a).take m).getD d 0 = l.getD (a + d) 0 := by
      simp only [List.getD_eq_getElem?_getD, List.getElem?_take, List.getElem?_drop]
      rw [if_pos (by omega)]
    rw [hg]
    have : Pl.leI (l.getD (a + d) 0 :: ((l.drop a).take m).drop (d + 1)) = l.getD (a + d) 0 + 256 * Pl.leI (((l.drop a).take m).drop (d + 1)) := by
      simp only [Pl.leI, Pl.toB, List.map_cons, Fs.le]
      have hu : (UInt8.ofNat (l.getD (a + d) 0).toNat).toNat = (l.getD (a + d) 0).toNat := by
        simp only [UInt8.toNat_ofNat']
        omega
      rw [hu]
      omega
    rw [this, ← hx]
    omega
theorem flagstoneref01_Get.nice (k : Nat) (l : List Int) (at_ size : Int) (hb : Pl.BY l) (hl : (l.length : Int) ≤ 9223372036854775000) (hs : -9223372036854775808 ≤ size ∧ size < 9223372036854775808) (ha : -9223372036854775808 ≤ at_ ∧ at_ < 9223372036854775808) (hk : 12 ≤ k) : flagstoneref01_Get.f k l at_ size = some (Pl.getS l at_ size) := by
  obtain ⟨k, rfl⟩ : ∃ j, k = j + 1 := ⟨k - 1, by omega⟩
  unfold flagstoneref01_Get.f Pl.getS
  by_cases h1 : size < 1
  · rw [if_pos h1, if_pos (.inl h1)]
    simp only [flagstoneref01_Get.j0]
    rw [if_pos trivial]
  rw [if_neg h1]
  by_cases h8 : size > 8
  · rw [if_pos (.inr h8), decide_eq_true h8]
    simp only [flagstoneref01_Get.j0]
    rw [if_pos trivial]
  rw [decide_eq_false h8, if_neg (by omega)]
  simp only [flagstoneref01_Get.j0, Bool.false_eq_true, if_false]
  by_cases h0 : at_ < 0
  · rw [if_pos h0, if_pos h0]
  rw [if_neg h0, if_neg h0]
  by_cases h2 : at_ > (l.length : Int)
  · rw [if_pos h2, if_pos (.inl h2)]
  rw [if_neg h2]
  have e1 : wrap64 ((l.length : Int) - at_) = (l.length : Int) - at_ := Pl.w64 (by omega) (by omega)
  rw [e1]
  by_cases h3 : (l.length : Int) - at_ < size
  · rw [if_pos h3, if_pos (.inr h3)]
  rw [if_neg h3, if_neg (by omega)]
  obtain ⟨a, rfl⟩ := Pl.nat_of (show 0 ≤ at_ by omega)
  obtain ⟨m, rfl⟩ := Pl.nat_of (show 0 ≤ size by omega)
  have e2 : wrap64 ((m : Int) - 1) = (m : Int) - 1 := Pl.w64 (by omega) (by omega)
  rw [e2, Int.toNat_natCast, Int.toNat_natCast]
  exact flagstoneref01_Get.loop l hb hl a m (by omega) (by omega) m k 0 (Nat.le_refl _) (by omega) (by
    rw [List.drop_eq_nil_of_le (by rw [List.length_take]; omega)]
    rfl)
theorem putS_len (n size : Int) : (Pl.putS n size).1.length ≤ 8 := by
  unfold Pl.putS
  split
  · simp
  split
  · simp
  · rw [Pl.putI_length]; omega
theorem octets_Pack.loop (ws vs : List Int) (hv : ∀ v ∈ vs, 0 ≤ v ∧ v < 18446744073709551616) (hl : ws.length = vs.length) (h64 : ws.length ≤ 64) (d : Nat) : ∀ (k i : Nat) (acc : List Int), ws.length - i = d → i ≤ ws.length → d + 13 ≤ k → acc.length ≤ 8 * i →
    octets_Pack.l0 k vs acc ws (ws.length : Int) (i : Int) = some (Pl.packGo (ws.drop i) (vs.drop i) acc) := by
  induction d with
  | zero =>
    intro k i acc hd hi hk ha
    obtain ⟨k, rfl⟩ : ∃ j, k = j + 1 := ⟨k - 1, by omega⟩
    obtain rfl : i = ws.length := by omega
    simp only [octets_Pack.l0]
    rw [if_neg (by omega), List.drop_length]
    simp [Pl.packGo]
  | succ d ih =>
    intro k i acc hd hi hk ha
    obtain ⟨k, rfl⟩ : ∃ j, k = j + 1 := ⟨k - 1, by omega⟩
    have hi1 : i < ws.length := by omega
    have hi2 : i < vs.length := by omega
    have e1 : wrap64 ((i : Int) + 1) = ((i + 1 : Nat) : Int) := by rw [Pl.w64 (by omega) (by omega)]; omega
    have hvi : 0 ≤ vs.getD i 0 ∧ vs.getD i 0 < 18446744073709551616 := by
      rw [List.getD_eq_getElem?_getD, List.getElem?_eq_getElem hi2]
      exact hv _ (List.getElem_mem _)
    have hp := putS_len (vs.getD i 0) (ws.getD i 0)
    simp only [octets_Pack.l0]
    rw [if_pos (by omega), if_pos (by omega), if_pos (by omega), if_pos (by omega), Pl.rd_nat, Pl.rd_nat, octets_Put.nice k _ _ hvi.1 hvi.2 (by omega)]
    simp only [Option.bind_some]
    rw [Pl.drop_cons ws i hi1, Pl.drop_cons vs i hi2]
    simp only [Pl.packGo]
    by_cases hz : (Pl.putS (vs.getD i 0) (ws.getD i 0)).2 = 0
    · rw [if_pos hz, if_pos hz, if_pos (by omega), e1]
      exact ih k (i + 1) _ (by omega) (by omega) (by omega) (by rw [List.length_append]; omega)
    · rw [if_neg hz, if_neg hz]
theorem octets_Pack.nice (k : Nat) (ws vs : List Int) (hv : ∀ v ∈ vs, 0 ≤ v ∧ v < 18446744073709551616) (hk : 80 ≤ k) : octets_Pack.f k ws vs = some (Pl.packS ws vs) := by
  obtain ⟨k, rfl⟩ : ∃ j, k = j + 1 := ⟨k - 1, by omega⟩
  unfold octets_Pack.f Pl.packS
  by_cases hl : (ws.length : Int) = (vs.length : Int)
  · rw [if_pos hl]
    by_cases h64 : (ws.length : Int) > 64
    · rw [decide_eq_true h64, if_pos (.inr (by omega))]
      simp only [octets_Pack.j0]
      rw [if_pos trivial]
    · rw [decide_eq_false h64, if_neg (by omega)]
      simp only [octets_Pack.j0, Bool.false_eq_true, if_false]
      exact octets_Pack.loop ws vs hv (by omega) (by omega) ws.length k 0 [] (by omega) (by omega) (by omega) (by simp)
  · rw [if_neg hl, if_pos (.inl (by omega))]
    simp only [octets_Pack.j0]
    rw [if_pos trivial]
theorem flagstoneref01_Pack.loop (ws vs : List Int) (hv : ∀ v ∈ vs, 0 ≤ v ∧ v < 18446744073709551616) (hl : ws.length = vs.length) (h64 : ws.length ≤ 64) (d : Nat) : ∀ (k i : Nat) (acc : List Int), ws.length - i = d → i ≤ ws.length → d + 13 ≤ k → acc.length ≤ 8 * i →
    flagstoneref01_Pack.l0 k ws vs acc (i : Int) = some (Pl.packGo (ws.drop i) (vs.drop i) acc) := by
  induction d with
  | zero =>
    intro k i acc hd hi hk ha
    obtain ⟨k, rfl⟩ : ∃ j, k = j + 1 := ⟨k - 1, by omega⟩
    obtain rfl : i = ws.length := by omega
    simp only [flagstoneref01_Pack.l0]
    rw [if_neg (by omega), List.drop_length]
    simp [Pl.packGo]
  | succ d ih =>
    intro k i acc hd hi hk ha
    obtain ⟨k, rfl⟩ : ∃ j, k = j + 1 := ⟨k - 1, by omega⟩
    have hi1 : i < ws.length := by omega
    have hi2 : i < vs.length := by omega
    have e1 : wrap64 ((i : Int) + 1) = ((i + 1 : Nat) : Int) := by rw [Pl.w64 (by omega) (by omega)]; omega
    have hvi : 0 ≤ vs.getD i 0 ∧ vs.getD i 0 < 18446744073709551616 := by
      rw [List.getD_eq_getElem?_getD, List.getElem?_eq_getElem hi2]
      exact hv _ (List.getElem_mem _)
    have hp := putS_len (vs.getD i 0) (ws.getD i 0)
    simp only [flagstoneref01_Pack.l0]
    rw [if_pos (by omega), if_pos (by omega), if_pos (by omega), Pl.rd_nat, Pl.rd_nat, flagstoneref01_Put.nice k _ _ hvi.1 hvi.2 (by omega)]
    simp only [Option.bind_some]
    rw [Pl.drop_cons ws i hi1, Pl.drop_cons vs i hi2]
    simp only [Pl.packGo]
    by_cases hz : (Pl.putS (vs.getD i 0) (ws.getD i 0)).2 = 0
    · rw [if_pos hz, if_pos hz, if_pos (by omega), e1]
      exact ih k (i + 1) _ (by omega) (by omega) (by omega) (by rw [List.length_append]; omega)
    · rw [if_neg hz, if_neg hz]
theorem flagstoneref01_Pack.nice (k : Nat) (ws vs : List Int) (hv : ∀ v ∈ vs, 0 ≤ v ∧ v < 18446744073709551616) (hk : 80 ≤ k) : flagstoneref01_Pack.f k ws vs = some (Pl.packS ws vs) := by
  obtain ⟨k, rfl⟩ : ∃ j, k = j + 1 := ⟨k - 1, by omega⟩
  unfold flagstoneref01_Pack.f Pl.packS
  by_cases hl : (ws.length : Int) = (vs.length : Int)
  · rw [if_pos hl]
    by_cases h64 : (ws.length : Int) > 64
    · rw [decide_eq_true h64, if_pos (.inr (by omega))]
      simp only [flagstoneref01_Pack.j0]
      rw [if_pos trivial]
    · rw [decide_eq_false h64, if_neg (by omega)]
      simp only [flagstoneref01_Pack.j0, Bool.false_eq_true, if_false]
      exact flagstoneref01_Pack.loop ws vs hv (by omega) (by omega) ws.length k 0 [] (by omega) (by omega) (by omega) (by simp)
  · rw [if_neg hl, if_pos (.inl (by omega))]
    simp only [flagstoneref01_Pack.j0]
    rw [if_pos trivial]
theorem flagstoneref01_Text.nice (s : ByteArray) : flagstoneref01_Text.f s = some (Pl.textS s) := by
  unfold flagstoneref01_Text.f Pl.textS
  by_cases h : (s.size : Int) > 255
  · rw [if_pos h, if_pos (by omega)]
  · rw [if_neg h, if_neg (by omega)]
    simp only [Option.bind_some]
    rw [if_pos (by simp; omega)]
    rw [Int.emod_eq_of_lt (by omega) (by omega)]
    rfl
theorem octets_Text.nice (s : ByteArray) : octets_Text.f s = some (Pl.textS s) := by
  unfold octets_Text.f Pl.textS
  by_cases h : (s.size : Int) > 255
  · rw [if_pos h, if_pos (by omega)]
  · rw [if_neg h, if_neg (by omega)]
theorem flagstoneplain_CopyBytes.nice (l : List Int) (h : l.length < 140737488355328) : flagstoneplain_CopyBytes.f l = some l := by
  unfold flagstoneplain_CopyBytes.f
  rw [if_pos (by simpa using h)]
  rfl
theorem flagstoneplain_SameNumbers.loop (a b : List Int) (hl : a.length = b.length) (hm : (a.length : Int) ≤ 9223372036854775000) (d : Nat) : ∀ (k i : Nat), a.length - i = d → i ≤ a.length → d < k →
    flagstoneplain_SameNumbers.l0 k a b (i : Int) = some (a.drop i == b.drop i) := by
  induction d with
  | zero =>
    intro k i hd hi hk
    obtain ⟨k, rfl⟩ : ∃ j, k = j + 1 := ⟨k - 1, by omega⟩
    simp only [flagstoneplain_SameNumbers.l0]
    rw [if_neg (by omega), List.drop_eq_nil_of_le (by omega), List.drop_eq_nil_of_le (by omega)]
    rfl
  | succ d ih =>
    intro k i hd hi hk
    obtain ⟨k, rfl⟩ : ∃ j, k = j + 1 := ⟨k - 1, by omega⟩
    have e1 : wrap64 ((i : Int) + 1) = ((i + 1 : Nat) : Int) := by rw [Pl.w64 (by omega) (by omega)]; omega
    simp only [flagstoneplain_SameNumbers.l0]
    rw [if_pos (by omega), if_pos (by omega), if_pos (by omega), Pl.rd_nat, Pl.rd_nat, Pl.drop_cons a i (by omega), Pl.drop_cons b i (by omega)]
    by_cases he : a.getD i 0 = b.getD i 0
    · rw [if_pos he, e1, ih k (i + 1) (by omega) (by omega) (by omega), he]
      simp
    · rw [if_neg he]
      congr 1
      have : ¬ (a.getD i 0 :: a.drop (i + 1) = b.getD i 0 :: b.drop (i + 1)) := fun h => he (List.cons.inj h).1
      exact (beq_eq_false_iff_ne.2 this).symm
theorem flagstoneplain_SameNumbers.nice (k : Nat) (a b : List Int) (hm : (a.length : Int) ≤ 9223372036854775000) (hk : a.length < k) : flagstoneplain_SameNumbers.f k a b = some (a == b) := by
  unfold flagstoneplain_SameNumbers.f
  by_cases hl : (a.length : Int) = (b.length : Int)
  · rw [if_pos hl]
    exact flagstoneplain_SameNumbers.loop a b (by omega) hm a.length k 0 (by omega) (by omega) hk
  · rw [if_neg hl]
    congr 1
    have : a ≠ b := fun h => hl (by rw [h])
    simp [this]
theorem flagstoneref01_Unpack.check (ws b : List Int) (h64 : ws.length ≤ 64) (d : Nat) : ∀ (k i : Nat), ws.length - i = d → i ≤ ws.length → d + 1 ≤ k →
    flagstoneref01_Unpack.l0 k ws b (i : Int) = if Pl.okW (ws.drop i) = true then flagstoneref01_Unpack.l1 (k - d - 1) ws b [] 0 0 else some ([], 1) := by
  induction d with
  | zero =>
    intro k i hd hi hk
    obtain ⟨k, rfl⟩ : ∃ j, k = j + 1 := ⟨k - 1, by omega⟩
    simp only [flagstoneref01_Unpack.l0]
    rw [if_neg (by omega), List.drop_eq_nil_of_le (by omega)]
    simp [Pl.okW]
  | succ d ih =>
    intro k i hd hi hk
    obtain ⟨k, rfl⟩ : ∃ j, k = j + 1 := ⟨k - 1, by omega⟩
    have e1 : wrap64 ((i : Int) + 1) = ((i + 1 : Nat) : Int) := by rw [Pl.w64 (by omega) (by omega)]; omega
    have hi1 : i < ws.length := by omega
    simp only [flagstoneref01_Unpack.l0]
    rw [if_pos (by omega), if_pos (by omega), Pl.rd_nat, Pl.drop_cons ws i hi1]
    have e2 : Pl.okW (ws.getD i 0 :: ws.drop (i + 1)) = (decide (1 ≤ ws.getD i 0 ∧ ws.getD i 0 ≤ 8) && Pl.okW (ws.drop (i + 1))) := rfl
    rw [e2]
    by_cases h1 : ws.getD i 0 < 1
    · rw [if_pos h1, decide_eq_false (by omega)]
      simp
    rw [if_neg h1]
    by_cases h8 : ws.getD i 0 > 8
    · rw [if_pos h8, decide_eq_false (by omega)]
      simp
    rw [if_neg h8, e1, ih k (i + 1) (by omega) (by omega) (by omega), decide_eq_true (by omega), Bool.true_and, show k + 1 - (d + 1) - 1 = k - d - 1 by omega]
theorem flagstoneref01_Unpack.loop (ws b : List Int) (hb : Pl.BY b) (hbl : (b.length : Int) ≤ 9223372036854000000) (hok : Pl.okW ws = true) (h64 : ws.length ≤ 64) (d : Nat) : ∀ (k i : Nat) (acc : List Int), ws.length - i = d → i ≤ ws.length → d + 13 ≤ k → acc.length = i → Pl.sumN (ws.take i) ≤ b.length →
    flagstoneref01_Unpack.l1 k ws b acc (Pl.sumN (ws.take i) : Int) (i : Int) = some (if b.length < Pl.sumN ws then ([], 8) else if b.length > Pl.sumN ws then ([], 23) else (acc ++ Pl.unpackGo (ws.drop i) (b.drop (Pl.sumN (ws.take i))), 0)) := by
  induction d with
  | zero =>
    intro k i acc hd hi hk ha hs
    obtain ⟨k, rfl⟩ : ∃ j, k = j + 1 := ⟨k - 1, by omega⟩
    obtain rfl : i = ws.length := by omega
    rw [List.take_length] at hs ⊢
    simp only [flagstoneref01_Unpack.l1]
    rw [if_neg (by omega), if_neg (show ¬ b.length < Pl.sumN ws by omega), List.drop_length]
    by_cases h : b.length > Pl.sumN ws
    · rw [if_pos (by omega), if_pos h]
    · rw [if_neg (by omega), if_neg h]
      simp [Pl.unpackGo]
  | succ d ih =>
    intro k i acc hd hi hk ha hs
    obtain ⟨k, rfl⟩ : ∃ j, k = j + 1 := ⟨k - 1, by omega⟩
    have hi1 : i < ws.length := by omega
    have e1 : wrap64 ((i : Int) + 1) = ((i + 1 : Nat) : Int) := by rw [Pl.w64 (by omega) (by omega)]; omega
    have hw := Pl.okW_at hok i hi1
    have hs512 := (Pl.sum_ok (Pl.okW_take hok i)).2
    have hs3 : Pl.sumN (ws.take i) ≤ 512 := by rw [List.length_take] at hs512; omega
    have e2 : Pl.sumN (ws.take (i + 1)) = Pl.sumN (ws.take i) + (ws.getD i 0).toNat := by rw [Pl.take_snoc _ _ hi1, Pl.sumN_snoc]
    have e3 : Pl.sumN (ws.take (i + 1)) ≤ Pl.sumN ws := Pl.sumN_take_le _
    simp only [flagstoneref01_Unpack.l1]
    rw [if_pos (by omega), if_pos (by omega), Pl.rd_nat, flagstoneref01_Get.nice k b _ _ hb (by omega) (by omega) (by omega) (by omega)]
    simp only [Option.bind_some]
    by_cases hfit : ws.getD i 0 > (b.length : Int) - (Pl.sumN (ws.take i) : Int)
    · have hg : Pl.getS b (Pl.sumN (ws.take i) : Int) (ws.getD i 0) = (0, 8) := by
        unfold Pl.getS
        rw [if_neg (by omega), if_neg (by omega), if_pos (.inr hfit)]
      rw [hg]
      simp only
      rw [if_neg (by omega), if_pos (by omega)]
    · have hg : Pl.getS b (Pl.sumN (ws.take i) : Int) (ws.getD i 0) = (Pl.leI ((b.drop (Pl.sumN (ws.take i))).take (ws.getD i 0).toNat), 0) := by
        unfold Pl.getS
        rw [if_neg (by omega), if_neg (by omega), if_neg (by omega), Int.toNat_natCast]
      rw [hg]
      simp only
      rw [if_pos trivial, if_pos (by omega), e1]
      have e4 : wrap64 ((Pl.sumN (ws.take i) : Int) + ws.getD i 0) = (Pl.sumN (ws.take (i + 1)) : Int) := by rw [Pl.w64 (by omega) (by omega)]; omega
      rw [e4, ih k (i + 1) _ (by omega) (by omega) (by omega) (by simp [ha]) (by omega), Pl.drop_cons ws i hi1]
      simp only [Pl.unpackGo]
      rw [e2, List.append_assoc, List.drop_drop]
      rfl
theorem flagstoneref01_Unpack.nice (k : Nat) (ws b : List Int) (hb : Pl.BY b) (hbl : (b.length : Int) ≤ 9223372036854000000) (hk : 200 ≤ k) : flagstoneref01_Unpack.f k ws b = some (Pl.unpackS ws b) := by
  unfold flagstoneref01_Unpack.f Pl.unpackS
  by_cases h64 : (ws.length : Int) > 64
  · rw [if_pos h64, if_pos (by omega)]
  rw [if_neg h64, if_neg (by omega)]
  have hc := flagstoneref01_Unpack.check ws b (by omega) ws.length k 0 (by omega) (by omega) (by omega)
  simp only [List.drop_zero, Int.natCast_zero] at hc
  have hc' : flagstoneref01_Unpack.l0 k ws b 0 = if Pl.okW ws = true then flagstoneref01_Unpack.l1 (k - ws.length - 1) ws b [] 0 0 else some ([], 1) := hc
  rw [hc']
  cases hok : Pl.okW ws with
  | false => simp
  | true =>
    have hl := flagstoneref01_Unpack.loop ws b hb hbl hok (by omega) ws.length (k - ws.length - 1) 0 [] (by omega) (by omega) (by omega) rfl (by simp [Pl.sumN])
    have hl' : flagstoneref01_Unpack.l1 (k - ws.length - 1) ws b [] 0 0 = _ := hl
    rw [if_pos rfl, hl', (Pl.sum_ok hok).1]
    simp only [Bool.true_eq_false, if_false]
    have a1 : ((b.length : Int) < (Pl.sumN ws : Int)) = (b.length < Pl.sumN ws) := by simp
    have a2 : ((b.length : Int) > (Pl.sumN ws : Int)) = (b.length > Pl.sumN ws) := by simp
    simp only [a1, a2]
    simp [Pl.sumN]
end Go.Proofs.Ythkjahoebkicbaa.Hy
