/- Layer 2: the table, the sum. -/
import Derived.Test.YteklnhogokjkkaaC2
namespace Go.Proofs.Yteklnhogokjkkaa.AE
open Go Go.RowKit Go.Proofs Go.Proofs.Yteklnhogokjkkaa
set_option linter.unusedVariables false
set_option linter.unusedSimpArgs false
set_option maxRecDepth 100000
set_option maxHeartbeats 4000000
def tabC (i : Nat) : List AV := (List.range 16).map fun j => AV.int .u32 (if j < i then Pl.tabI j else 0)
theorem tabC_len (i : Nat) : (tabC i).length = 16 := by simp [tabC]
theorem tabC_step (i : Nat) (hi : i < 16) : (tabC i).take i ++ [AV.int .u32 (Pl.tabI i)] ++ (tabC i).drop (i + 1) = tabC (i + 1) := by
  apply List.ext_getElem?
  intro j
  by_cases h1 : j < i
  · rw [List.append_assoc, List.getElem?_append_left (by simp [tabC_len]; omega), List.getElem?_take, if_pos h1]
    simp only [tabC, List.getElem?_map]
    cases hr : (List.range 16)[j]? with
    | none => rfl
    | some q =>
      obtain ⟨hq, rfl⟩ := List.getElem?_eq_some_iff.1 hr
      simp at hq ⊢
      rw [if_pos h1, if_pos (by omega)]
  · by_cases h2 : j = i
    · subst h2
      rw [List.append_assoc, List.getElem?_append_right (by simp [tabC_len]; omega)]
      simp [tabC_len, tabC, show min j 16 = j by omega, List.getElem?_range hi]
    · rw [List.getElem?_append_right (by simp [tabC_len]; omega), List.getElem?_drop]
      simp only [List.length_append, List.length_take, tabC_len, List.length_singleton]
      rw [show i + 1 + (j - (min i 16 + 1)) = j by omega]
      simp only [tabC, List.getElem?_map]
      cases hr : (List.range 16)[j]? with
      | none => rfl
      | some q =>
        obtain ⟨hq, rfl⟩ := List.getElem?_eq_some_iff.1 hr
        simp at hq ⊢
        rw [if_neg h1, if_neg (by omega)]
theorem crc_half : aFun Try.prog 52 [] (.agg (tabC 16)) := by
  refine aFun_body Try.func52 rfl rfl (by simp [Try.ntmps52]) fun hreal h nx hfresh => ?_
  rw [Try.ntmps52]
  have FX := Fx0
  repeat (first | refine v_ ?_ | refine u_ ?_ | refine nl_ ?_ | (refine nz_ ?_; first | (show aWp _ _ _ _ _) | skip) | refine sq_ ?_ | refine rg_ ?_ | refine k_ ?_ | refine ct_ ?_ | refine cf_ ?_ | refine bk_ ?_ | refine sc_ ?_ | (refine sk_ ?_; first | (show aWp _ _ _ _ _) | skip) | (refine ex_ ?_; first | (show aWp _ _ _ _ _) | skip) | refine rt_ ?_)
  refine W_loopK [0] nx (fun r tm h q => ∃ i : Nat, nx < q ∧ i ≤ 16 ∧ r = 16 - i ∧ tm 3 = .int .i64 i ∧ h nx = some ⟨16, [tabC i]⟩) 16 (by omega) ⟨0, by omega, by omega, rfl, rfl, by (have FX := Fx0; exact cl_)⟩ ?_
  rintro r tm' h' k' ⟨i, hk'', hi, rfl, h3, hm⟩ hag hh hk'
  by_cases hlt : i < 16
  · have hd : decide ((i : Int) < 16) = true := decide_eq_true (by omega)
    have hw : IntKind.i64.wrap (i + 1) = ((i + 1 : Nat) : Int) := by rw [wrapI] <;> omega
    have hr : Pl.rI (BitVec.ofNat 32 i) = (i : Int) := by simp [Pl.rI]; omega
    have hw3 : IntKind.u32.wrap (i : Int) = Pl.rI (Fs.stN 0 (BitVec.ofNat 32 i)) := by rw [Pl.u32w (by omega) (by omega)]; exact hr.symm
    have FX := Fx.mk (And.intro @hag <| And.intro @h3 <| And.intro @hm <| And.intro @hh <| And.intro @hd <| And.intro @hw <| @hw3)
    repeat (first | refine v_ ?_ | refine u_ ?_ | refine nl_ ?_ | (refine nz_ ?_; first | (show aWp _ _ _ _ _) | skip) | refine sq_ ?_ | refine rg_ ?_ | refine k_ ?_ | refine ct_ ?_ | refine cf_ ?_ | refine bk_ ?_ | refine sc_ ?_ | (refine sk_ ?_; first | (show aWp _ _ _ _ _) | skip) | (refine ex_ ?_; first | (show aWp _ _ _ _ _) | skip) | refine rt_ ?_)
    refine W_loopK [0, 1, 3] k' (fun r tm h _ => ∃ j : Nat, j ≤ 4 ∧ r = 4 - j ∧ tm 8 = .int .i64 j ∧ tm 2 = .int .u32 (Pl.rI (Fs.stN j (BitVec.ofNat 32 i)))) 4 (by omega) ⟨0, by omega, rfl, rfl, by (have FX := Fx0; exact cl_)⟩ ?_
    rintro r tm2 h2 k2 ⟨j, hj, rfl, h8, h2'⟩ hag2 hh2 hk2
    by_cases hlt2 : j < 4
    · have hd2 : decide ((j : Int) < 4) = true := decide_eq_true (by omega)
      have hw2 : IntKind.i64.wrap (j + 1) = ((j + 1 : Nat) : Int) := by rw [wrapI] <;> omega
      have hst := Pl.st_walk (Fs.stN j (BitVec.ofNat 32 i))
      rw [← Pl.stN_succ] at hst
      generalize Fs.stN j (BitVec.ofNat 32 i) = c at hst h2'
      have hsh : (Pl.rI c).fdiv (2 ^ (min 1 IntKind.u32.bits)) = Pl.rI c / 2 := Int.fdiv_eq_ediv_of_nonneg _ (by decide)
      have hng : ∀ x : Int, IntKind.u32.wrap (0 - x) = -x % 4294967296 := fun x => by simp [IntKind.wrap, IntKind.signed, IntKind.bits]
      have FX := Fx.mk (And.intro @hag2 <| And.intro @h8 <| And.intro @h2' <| And.intro @hh2 <| And.intro @hd2 <| And.intro @hw2 <| And.intro @hst <| And.intro @hsh <| @hng)
      repeat (first | refine v_ ?_ | refine u_ ?_ | refine nl_ ?_ | (refine nz_ ?_; first | (show aWp _ _ _ _ _) | skip) | refine sq_ ?_ | refine rg_ ?_ | refine k_ ?_ | refine ct_ ?_ | refine cf_ ?_ | refine bk_ ?_ | refine sc_ ?_ | (refine sk_ ?_; first | (show aWp _ _ _ _ _) | skip) | (refine ex_ ?_; first | (show aWp _ _ _ _ _) | skip) | refine rt_ ?_)
      refine ⟨4 - (j + 1), by omega, ⟨j + 1, by omega, rfl, ?_, ?_⟩, ?_, ?_, by simp only; omega, rfl⟩
      · (have FX := Fx0; exact cl_)
      · (have FX := Fx0; exact cl_)
      · repeat (refine KAgree.upd rfl ?_)
        exact hag2
      · exact (by have FX := Fx.mk (@hh2); exact ha_)
    · obtain rfl : j = 4 := by omega
      have hd2 : decide (((4 : Nat) : Int) < 4) = false := by decide
      have hm2 : h2 nx = some ⟨16, [tabC i]⟩ := by rw [hh2 nx (by omega)]; exact hm
      have hstep := tabC_step i hlt
      have htl := tabC_len i
      have h2'' : tm2 2 = .int .u32 (Pl.tabI i) := h2'
      have FX := Fx.mk (And.intro @hag2 <| And.intro @hag <| And.intro @h8 <| And.intro @h2'' <| And.intro @hm2 <| And.intro @hd2 <| And.intro @h3 <| And.intro @hw <| And.intro @htl <| @hstep)
      repeat (first | refine v_ ?_ | refine u_ ?_ | refine nl_ ?_ | (refine nz_ ?_; first | (show aWp _ _ _ _ _) | skip) | refine sq_ ?_ | refine rg_ ?_ | refine k_ ?_ | refine ct_ ?_ | refine cf_ ?_ | refine bk_ ?_ | refine sc_ ?_ | (refine sk_ ?_; first | (show aWp _ _ _ _ _) | skip) | (refine ex_ ?_; first | (show aWp _ _ _ _ _) | skip) | refine rt_ ?_)
      refine ⟨16 - (i + 1), by omega, ⟨i + 1, by simp only; omega, by omega, rfl, ?_, ?_⟩, ?_, ?_, by simp only; omega, rfl⟩
      · (have FX := Fx0; exact cl_)
      · (have FX := Fx0; exact cl_)
      · refine KAgree.of ?_
        repeat' (first | exact True.intro | refine And.intro ?_ ?_ | ((have FX := Fx.mk (And.intro @hag2 <| @hag); exact cl_)))
      · exact (by have FX := Fx.mk (And.intro @hh2 <| @hh); exact ha_)
  · obtain rfl : i = 16 := by omega
    have hd : decide (((16 : Nat) : Int) < 16) = false := by decide
    have htl := tabC_len 16
    have htt : (tabC 16).take 16 = tabC 16 := List.take_of_length_le (by rw [htl]; omega)
    have htd : (tabC 16).drop 16 = [] := List.drop_of_length_le (by rw [htl]; omega)
    have FX := Fx.mk (And.intro @hag <| And.intro @h3 <| And.intro @hm <| And.intro @hh <| And.intro @hd <| And.intro @htl <| And.intro @htt <| @htd)
    repeat (first | refine v_ ?_ | refine u_ ?_ | refine nl_ ?_ | (refine nz_ ?_; first | (show aWp _ _ _ _ _) | skip) | refine sq_ ?_ | refine rg_ ?_ | refine k_ ?_ | refine ct_ ?_ | refine cf_ ?_ | refine bk_ ?_ | refine sc_ ?_ | (refine sk_ ?_; first | (show aWp _ _ _ _ _) | skip) | (refine ex_ ?_; first | (show aWp _ _ _ _ _) | skip) | refine rt_ ?_)
    (have FX := Fx.mk (And.intro @hag <| And.intro @hm <| And.intro @hh <| And.intro @htl <| And.intro @htt <| @htd); exact end_ Try.results52)
theorem tabC_drop (j : Nat) (hj : j < 16) : (tabC 16).drop j = AV.int .u32 (Pl.tabI j) :: (tabC 16).drop (j + 1) := by
  rw [List.drop_eq_getElem_cons (by rw [tabC_len]; exact hj)]
  simp [tabC, hj]
theorem crc_More (c : Fs.Reg) (l : List Int) : aFun Try.prog 49 [.int .u32 (Pl.rI c), .sl (numB .u8 l)] (.int .u32 (Pl.rI (Fs.more c (Pl.toB l)))) := by
  refine aFun_body Try.func49 rfl rfl (by simp [Try.ntmps49]) fun hreal h nx hfresh => ?_
  rw [Try.ntmps49]
  have hl := (hreal (.sl (numB .u8 l)) (by simp)).num.1
  have hby := (hreal (.sl (numB .u8 l)) (by simp)).BY
  have htl := tabC_len 16
  have htt : (tabC 16).take 16 = tabC 16 := List.take_of_length_le (by rw [htl]; omega)
  have htd : (tabC 16).drop 16 = [] := List.drop_of_length_le (by rw [htl]; omega)
  have hta : (tabC 16).all AV.one = true := by decide
  have FX := Fx.mk (And.intro @Pl.not_I <| And.intro @htl <| And.intro @htt <| And.intro @htd <| @hta)
  repeat (first | refine v_ ?_ | refine u_ ?_ | refine f_ (crc_half) fun kf hkf => ?_ | refine nl_ ?_ | (refine nz_ ?_; first | (show aWp _ _ _ _ _) | skip) | refine sq_ ?_ | refine rg_ ?_ | refine k_ ?_ | refine ct_ ?_ | refine cf_ ?_ | refine bk_ ?_ | refine sc_ ?_ | (refine sk_ ?_; first | (show aWp _ _ _ _ _) | skip) | (refine ex_ ?_; first | (show aWp _ _ _ _ _) | skip) | refine rt_ ?_)
  refine W_loopK [5, 11, 12] (kf + 1) (fun r tm h q => ∃ i : Nat, i ≤ l.length ∧ r = l.length - i ∧ tm 13 = .int .i64 i ∧ tm 0 = .int .u32 (Pl.rI (Fs.run (~~~ c) (Pl.toB (l.take i))))) l.length (by omega) ⟨0, by omega, rfl, rfl, by (have FX := Fx0; exact cl_)⟩ ?_
  rintro r tm' h' k' ⟨i, hi, rfl, h13, h0⟩ hag hh hk'
  by_cases hlt : i < l.length
  · have hd : decide ((i : Int) < (l.length : Int)) = true := decide_eq_true (by omega)
    have hw : IntKind.i64.wrap (i + 1) = ((i + 1 : Nat) : Int) := by rw [wrapI] <;> omega
    obtain ⟨x, hx⟩ : ∃ x, l[i]? = some x := ⟨l[i], List.getElem?_eq_getElem hlt⟩
    have hxr := hby x (List.mem_of_getElem? hx)
    have hw9 : IntKind.u32.wrap x = x := by rw [Pl.u32w] <;> omega
    have hti : l.take (i + 1) = l.take i ++ [x] := by rw [List.take_add_one, hx]; rfl
    have hrun := Pl.run_snoc (~~~ c) (l.take i) x
    rw [← hti, ← Pl.stN_8] at hrun
    generalize Fs.run (~~~ c) (Pl.toB (l.take i)) = r0 at hrun h0
    have hx1 : bits .xor .u32 (Pl.rI r0) x = Pl.rI (r0 ^^^ Fs.reg (UInt8.ofNat x.toNat)) := by rw [← Pl.bits_xor, Pl.reg_I x hxr]
    generalize r0 ^^^ Fs.reg (UInt8.ofNat x.toNat) = r1 at hrun hx1
    have hsh : ∀ r : Fs.Reg, (Pl.rI r).fdiv (2 ^ (min 4 IntKind.u32.bits)) = Pl.rI r / 16 := fun r => Int.fdiv_eq_ediv_of_nonneg _ (by decide)
    have hj1 : r1.toNat % 16 < 16 := Nat.mod_lt _ (by decide)
    have hj2 : (Fs.stN 4 r1).toNat % 16 < 16 := Nat.mod_lt _ (by decide)
    have hi1 : ((r1.toNat % 16 : Nat) : Int) < 16 := by omega
    have hi2 : (((Fs.stN 4 r1).toNat % 16 : Nat) : Int) < 16 := by omega
    have ha1 := Pl.and15_I r1
    have ha2 := Pl.and15_I (Fs.stN 4 r1)
    have ht1 := tabC_drop _ hj1
    have ht2 := tabC_drop _ hj2
    have hf1 := Pl.half_walk r1
    have hf2 := Pl.half_walk (Fs.stN 4 r1)
    rw [← hrun] at hf2
    generalize r1.toNat % 16 = j1 at *
    generalize (Fs.stN 4 r1).toNat % 16 = j2 at *
    have FX := Fx.mk (And.intro @hag <| And.intro @h13 <| And.intro @h0 <| And.intro @hh <| And.intro @hd <| And.intro @hw <| And.intro @hx <| And.intro @hw9 <| And.intro @hx1 <| And.intro @hsh <| And.intro @ha1 <| And.intro @ha2 <| And.intro @ht1 <| And.intro @ht2 <| And.intro @hf1 <| @hf2)
    repeat (first | refine v_ ?_ | refine u_ ?_ | refine nl_ ?_ | (refine nz_ ?_; first | (show aWp _ _ _ _ _) | skip) | refine sq_ ?_ | refine rg_ ?_ | refine k_ ?_ | refine ct_ ?_ | refine cf_ ?_ | refine bk_ ?_ | refine sc_ ?_ | (refine sk_ ?_; first | (show aWp _ _ _ _ _) | skip) | (refine ex_ ?_; first | (show aWp _ _ _ _ _) | skip) | refine rt_ ?_)
    refine ⟨l.length - (i + 1), by omega, ⟨i + 1, by omega, rfl, ?_, ?_⟩, ?_, ?_, by simp only; omega, rfl⟩
    · (have FX := Fx0; exact cl_)
    · (have FX := Fx0; exact cl_)
    · repeat (refine KAgree.upd rfl ?_)
      first | exact KAgree.refl _ _ | exact hag
    · exact (by have FX := Fx.mk (@hh); exact ha_)
  · obtain rfl : i = l.length := by omega
    have hd : decide ((l.length : Int) < (l.length : Int)) = false := by simp
    rw [List.take_length] at h0
    have FX := Fx.mk (And.intro @hag <| And.intro @h13 <| And.intro @h0 <| And.intro @hh <| And.intro @hd <| @Pl.not_I)
    repeat (first | refine v_ ?_ | refine u_ ?_ | refine nl_ ?_ | (refine nz_ ?_; first | (show aWp _ _ _ _ _) | skip) | refine sq_ ?_ | refine rg_ ?_ | refine k_ ?_ | refine ct_ ?_ | refine cf_ ?_ | refine bk_ ?_ | refine sc_ ?_ | (refine sk_ ?_; first | (show aWp _ _ _ _ _) | skip) | (refine ex_ ?_; first | (show aWp _ _ _ _ _) | skip) | refine rt_ ?_)
    have hm : ∀ b, Fs.more c b = ~~~ Fs.run (~~~ c) b := fun _ => rfl
    (have FX := Fx.mk (And.intro @hag <| And.intro @hh <| @hm); exact end_ Try.results49)
theorem crc_Sum (l : List Int) : aFun Try.prog 40 [.sl (numB .u8 l)] (.int .u32 (Pl.crcI l)) := by
  refine aFun_body Try.func40 rfl rfl (by simp [Try.ntmps40]) fun hreal h nx hfresh => ?_
  rw [Try.ntmps40]
  have hc := crc_More 0#32 l
  rw [show Pl.rI 0#32 = 0 by decide] at hc
  have FX := Fx0
  repeat (first | refine v_ ?_ | refine u_ ?_ | refine f_ (hc) fun kf hkf => ?_ | refine nl_ ?_ | (refine nz_ ?_; first | (show aWp _ _ _ _ _) | skip) | refine sq_ ?_ | refine rg_ ?_ | refine k_ ?_ | refine ct_ ?_ | refine cf_ ?_ | refine bk_ ?_ | refine sc_ ?_ | (refine sk_ ?_; first | (show aWp _ _ _ _ _) | skip) | (refine ex_ ?_; first | (show aWp _ _ _ _ _) | skip) | refine rt_ ?_)
  have hs : Pl.crcI l = Pl.rI (Fs.more 0#32 (Pl.toB l)) := rfl
  (have FX := Fx.mk (@hs); exact end_ Try.results40)
#print axioms crc_Sum
end Go.Proofs.Yteklnhogokjkkaa.AE
