/- Layer 2's page. -/
import Derived.Test.YteklnhogokjkkaaC2
namespace Go.Proofs.Yteklnhogokjkkaa.AE
open Go Go.RowKit Go.Proofs Go.Proofs.Yteklnhogokjkkaa
set_option linter.unusedVariables false
set_option linter.unusedSimpArgs false
set_option maxRecDepth 100000
set_option maxHeartbeats 4000000
theorem and1_I (c : Fs.Reg) : bits .and .u32 (Pl.rI c) 1 = if c.getLsbD 0 = true then 1 else 0 := by
  rw [← Pl.one_I, Pl.bits_and]
  have h1 : c &&& 1#32 = if c.getLsbD 0 = true then 1#32 else 0#32 := by
    apply BitVec.eq_of_getLsbD_eq
    intro i hi
    by_cases h0 : i = 0
    · subst h0
      cases hc : c.getLsbD 0 <;> first | (simp; simpa using hc) | simp [hc]
    · cases hc : c.getLsbD 0 <;> simp [hc] <;> omega
  rw [h1]
  split <;> decide
theorem st_if (c : Fs.Reg) : Pl.rI (Fs.st c) = if c.getLsbD 0 = true then bits .xor .u32 (Pl.rI c / 2) 2197175160 else Pl.rI c / 2 := by
  unfold Fs.st
  split
  · rw [Pl.rI_shr1, ← Pl.poly_I, Pl.bits_xor]
  · rw [Pl.rI_shr1, BitVec.xor_zero]
theorem ref02_run (c : Fs.Reg) (l : List Int) : aFun Try.prog 51 [.int .u32 (Pl.rI c), .sl (numB .u8 l)] (.int .u32 (Pl.rI (Fs.run c (Pl.toB l)))) := by
  refine aFun_body Try.func51 rfl rfl (by simp [Try.ntmps51]) fun hreal h nx hfresh => ?_
  rw [Try.ntmps51]
  have hl := (hreal (.sl (numB .u8 l)) (by simp)).num.1
  have hby := (hreal (.sl (numB .u8 l)) (by simp)).BY
  have FX := Fx0
  repeat (first | refine v_ ?_ | refine u_ ?_ | refine nl_ ?_ | (refine nz_ ?_; first | (show aWp _ _ _ _ _) | skip) | refine sq_ ?_ | refine rg_ ?_ | refine k_ ?_ | refine ct_ ?_ | refine cf_ ?_ | refine bk_ ?_ | refine sc_ ?_ | (refine sk_ ?_; first | (show aWp _ _ _ _ _) | skip) | (refine ex_ ?_; first | (show aWp _ _ _ _ _) | skip) | refine rt_ ?_)
  refine W_loopK [1] nx (fun r tm h q => ∃ i : Nat, i ≤ l.length ∧ r = l.length - i ∧ tm 5 = .int .i64 i ∧ tm 0 = .int .u32 (Pl.rI (Fs.run c (Pl.toB (l.take i))))) l.length (by omega) ⟨0, by omega, rfl, rfl, by (have FX := Fx0; exact cl_)⟩ ?_
  rintro r tm' h' k' ⟨i, hi, rfl, h5, h0⟩ hag hh hk'
  by_cases hlt : i < l.length
  · have hd : decide ((i : Int) < (l.length : Int)) = true := decide_eq_true (by omega)
    have hw : IntKind.i64.wrap (i + 1) = ((i + 1 : Nat) : Int) := by rw [wrapI] <;> omega
    obtain ⟨x, hx⟩ : ∃ x, l[i]? = some x := ⟨l[i], List.getElem?_eq_getElem hlt⟩
    have hxr := hby x (List.mem_of_getElem? hx)
    have hw9 : IntKind.u32.wrap x = x := by rw [Pl.u32w] <;> omega
    have hti : l.take (i + 1) = l.take i ++ [x] := by rw [List.take_add_one, hx]; rfl
    have hrun := Pl.run_snoc c (l.take i) x
    rw [← hti] at hrun
    generalize Fs.run c (Pl.toB (l.take i)) = r0 at hrun h0
    have hx1 : bits .xor .u32 (Pl.rI r0) x = Pl.rI (r0 ^^^ Fs.reg (UInt8.ofNat x.toNat)) := by rw [← Pl.bits_xor, Pl.reg_I x hxr]
    generalize r0 ^^^ Fs.reg (UInt8.ofNat x.toNat) = r1 at hrun hx1
    have hsh : ∀ r : Fs.Reg, (Pl.rI r).fdiv (2 ^ (min 1 IntKind.u32.bits)) = Pl.rI r / 2 := fun r => Int.fdiv_eq_ediv_of_nonneg _ (by decide)
    have FX := Fx.mk (And.intro @hag <| And.intro @h5 <| And.intro @h0 <| And.intro @hh <| And.intro @hd <| And.intro @hx <| And.intro @hw9 <| @hx1)
    repeat (first | refine v_ ?_ | refine u_ ?_ | refine nl_ ?_ | (refine nz_ ?_; first | (show aWp _ _ _ _ _) | skip) | refine sq_ ?_ | refine rg_ ?_ | refine k_ ?_ | refine ct_ ?_ | refine cf_ ?_ | refine bk_ ?_ | refine sc_ ?_ | (refine sk_ ?_; first | (show aWp _ _ _ _ _) | skip) | (refine ex_ ?_; first | (show aWp _ _ _ _ _) | skip) | refine rt_ ?_)
    refine W_loopK [1, 5] nx (fun r tm h _ => ∃ j : Nat, j ≤ 8 ∧ r = 8 - j ∧ tm 6 = .int .i64 j ∧ tm 0 = .int .u32 (Pl.rI (Fs.stN j r1))) 8 (by omega) ⟨0, by omega, rfl, rfl, by (have FX := Fx0; exact cl_)⟩ ?_
    rintro r tm2 h2 k2 ⟨j, hj, rfl, h6, h0'⟩ hag2 hh2 hk2
    by_cases hlt2 : j < 8
    · have hd2 : decide ((j : Int) < 8) = true := decide_eq_true (by omega)
      have hw2 : IntKind.i64.wrap (j + 1) = ((j + 1 : Nat) : Int) := by rw [wrapI] <;> omega
      have hst := st_if (Fs.stN j r1)
      rw [← Pl.stN_succ] at hst
      have ha1 := and1_I (Fs.stN j r1)
      generalize Fs.stN j r1 = c1 at hst h0' ha1
      by_cases hb : c1.getLsbD 0 = true
      · rw [if_pos hb] at ha1 hst
        have hd3 : decide ((1 : Int) = 1) = true := rfl
        have FX := Fx.mk (And.intro @hag2 <| And.intro @h6 <| And.intro @h0' <| And.intro @hh2 <| And.intro @hd2 <| And.intro @hw2 <| And.intro @ha1 <| And.intro @hsh <| And.intro @hd3 <| ((Eq.symm hst)))
        repeat (first | refine v_ ?_ | refine u_ ?_ | refine nl_ ?_ | (refine nz_ ?_; first | (show aWp _ _ _ _ _) | skip) | refine sq_ ?_ | refine rg_ ?_ | refine k_ ?_ | refine ct_ ?_ | refine cf_ ?_ | refine bk_ ?_ | refine sc_ ?_ | (refine sk_ ?_; first | (show aWp _ _ _ _ _) | skip) | (refine ex_ ?_; first | (show aWp _ _ _ _ _) | skip) | refine rt_ ?_)
        refine ⟨8 - (j + 1), by omega, ⟨j + 1, by omega, rfl, ?_, ?_⟩, ?_, ?_, by simp only; omega, rfl⟩
        · (have FX := Fx0; exact cl_)
        · (have FX := Fx.mk (@hst); exact cl_)
        · repeat (refine KAgree.upd rfl ?_)
          exact hag2
        · exact (by have FX := Fx.mk (@hh2); exact ha_)
      · rw [if_neg hb] at ha1 hst
        have hd3 : decide ((0 : Int) = 1) = false := rfl
        have FX := Fx.mk (And.intro @hag2 <| And.intro @h6 <| And.intro @h0' <| And.intro @hh2 <| And.intro @hd2 <| And.intro @hw2 <| And.intro @ha1 <| And.intro @hsh <| @hd3)
        repeat (first | refine v_ ?_ | refine u_ ?_ | refine nl_ ?_ | (refine nz_ ?_; first | (show aWp _ _ _ _ _) | skip) | refine sq_ ?_ | refine rg_ ?_ | refine k_ ?_ | refine ct_ ?_ | refine cf_ ?_ | refine bk_ ?_ | refine sc_ ?_ | (refine sk_ ?_; first | (show aWp _ _ _ _ _) | skip) | (refine ex_ ?_; first | (show aWp _ _ _ _ _) | skip) | refine rt_ ?_)
        refine ⟨8 - (j + 1), by omega, ⟨j + 1, by omega, rfl, ?_, ?_⟩, ?_, ?_, by simp only; omega, rfl⟩
        · (have FX := Fx0; exact cl_)
        · (have FX := Fx.mk (@hst); exact cl_)
        · repeat (refine KAgree.upd rfl ?_)
          exact hag2
        · exact (by have FX := Fx.mk (@hh2); exact ha_)
    · obtain rfl : j = 8 := by omega
      have hd2 : decide (((8 : Nat) : Int) < 8) = false := by decide
      rw [← hrun] at h0'
      have FX := Fx.mk (And.intro @hag2 <| And.intro @hag <| And.intro @h6 <| And.intro @h0' <| And.intro @hh2 <| And.intro @hd2 <| And.intro @h5 <| @hw)
      repeat (first | refine v_ ?_ | refine u_ ?_ | refine nl_ ?_ | (refine nz_ ?_; first | (show aWp _ _ _ _ _) | skip) | refine sq_ ?_ | refine rg_ ?_ | refine k_ ?_ | refine ct_ ?_ | refine cf_ ?_ | refine bk_ ?_ | refine sc_ ?_ | (refine sk_ ?_; first | (show aWp _ _ _ _ _) | skip) | (refine ex_ ?_; first | (show aWp _ _ _ _ _) | skip) | refine rt_ ?_)
      refine ⟨l.length - (i + 1), by omega, ⟨i + 1, by omega, rfl, ?_, ?_⟩, ?_, ?_, by simp only; omega, rfl⟩
      · (have FX := Fx0; exact cl_)
      · (have FX := Fx.mk (@h0'); exact cl_)
      · refine KAgree.of ?_
        repeat' (first | exact True.intro | refine And.intro ?_ ?_ | ((have FX := Fx.mk (And.intro @hag2 <| @hag); exact cl_)))
      · exact (by have FX := Fx.mk (And.intro @hh2 <| @hh); exact ha_)
  · obtain rfl : i = l.length := by omega
    have hd : decide ((l.length : Int) < (l.length : Int)) = false := by simp
    rw [List.take_length] at h0
    have FX := Fx.mk (And.intro @hag <| And.intro @h5 <| And.intro @h0 <| And.intro @hh <| @hd)
    repeat (first | refine v_ ?_ | refine u_ ?_ | refine nl_ ?_ | (refine nz_ ?_; first | (show aWp _ _ _ _ _) | skip) | refine sq_ ?_ | refine rg_ ?_ | refine k_ ?_ | refine ct_ ?_ | refine cf_ ?_ | refine bk_ ?_ | refine sc_ ?_ | (refine sk_ ?_; first | (show aWp _ _ _ _ _) | skip) | (refine ex_ ?_; first | (show aWp _ _ _ _ _) | skip) | refine rt_ ?_)
    (have FX := Fx.mk (And.intro @hag <| @hh); exact end_ Try.results51)
theorem ref02_Sum (l : List Int) : aFun Try.prog 43 [.sl (numB .u8 l)] (.int .u32 (Pl.crcI l)) := by
  have hf : Pl.rI (~~~ 0#32) = 4294967295 := by decide
  have hr := ref02_run (~~~ 0#32) l
  rw [hf] at hr
  refine aFun_body Try.func43 rfl rfl (by simp [Try.ntmps43]) fun hreal h nx hfresh => ?_
  rw [Try.ntmps43]
  have FX := Fx.mk (@Pl.not_I)
  repeat (first | refine v_ ?_ | refine u_ ?_ | refine f_ (hr) fun kf hkf => ?_ | refine nl_ ?_ | (refine nz_ ?_; first | (show aWp _ _ _ _ _) | skip) | refine sq_ ?_ | refine rg_ ?_ | refine k_ ?_ | refine ct_ ?_ | refine cf_ ?_ | refine bk_ ?_ | refine sc_ ?_ | (refine sk_ ?_; first | (show aWp _ _ _ _ _) | skip) | (refine ex_ ?_; first | (show aWp _ _ _ _ _) | skip) | refine rt_ ?_)
  have hs : Pl.crcI l = Pl.rI (~~~ Fs.run (~~~ 0#32) (Pl.toB l)) := rfl
  (have FX := Fx.mk (@hs); exact end_ Try.results43)
theorem ref02_Copied (l : List Int) (hc : l.length ≤ 140737488355328) : aOwn Try.prog 44 [.sl (numB .u8 l)] 1 (numB .u8 l) := by
  refine aOwn_body Try.func44 rfl rfl (by simp [Try.ntmps44]) fun hreal h nx hfresh => ?_
  rw [Try.ntmps44]
  have FX := Fx0
  repeat (first | refine v_ ?_ | refine u_ ?_ | refine nl_ ?_ | (refine nz_ ?_; first | (show aWp _ _ _ _ _) | skip) | refine sq_ ?_ | refine rg_ ?_ | refine k_ ?_ | refine ct_ ?_ | refine cf_ ?_ | refine bk_ ?_ | refine sc_ ?_ | (refine sk_ ?_; first | (show aWp _ _ _ _ _) | skip) | (refine ex_ ?_; first | (show aWp _ _ _ _ _) | skip) | refine rt_ ?_)
  (have FX := Fx0; exact endo_ (rest := []) (nx) Try.results44)
theorem put4 (n : Int) (h0 : 0 ≤ n) (h1 : n < 4294967296) : Pl.putI 4 n = [n % 256, n / 256 % 256, n / 65536 % 256, n / 16777216 % 256] := by
  have e := Pl.putI_snoc
  rw [e 3 n h0, e 2 n h0, e 1 n h0, e 0 n h0]
  simp [Pl.putI, Pl.ofB, Fs.put]
theorem ref02_Seal (l : List Int) (hc : l.length ≤ 10000000) : aOwn Try.prog 30 [.sl (numB .u8 l)] 1 (numB .u8 (Pl.sealS l)) := by
  refine aOwn_body Try.func30 rfl rfl (by simp [Try.ntmps30]) fun hreal h nx hfresh => ?_
  rw [Try.ntmps30]
  have hcr := Pl.crcI_range l
  have hse : Pl.sealS l = l ++ [Pl.crcI l % 256, Pl.crcI l / 256 % 256, Pl.crcI l / 65536 % 256, Pl.crcI l / 16777216 % 256] := by rw [Pl.sealS, put4 _ hcr.1 hcr.2]
  have hsl := Pl.seal_len l
  have s1 : (Pl.crcI l).fdiv (2 ^ (min 8 IntKind.u32.bits)) = Pl.crcI l / 256 := Int.fdiv_eq_ediv_of_nonneg _ (by decide)
  have s2 : (Pl.crcI l).fdiv (2 ^ (min 16 IntKind.u32.bits)) = Pl.crcI l / 65536 := Int.fdiv_eq_ediv_of_nonneg _ (by decide)
  have s3 : (Pl.crcI l).fdiv (2 ^ (min 24 IntKind.u32.bits)) = Pl.crcI l / 16777216 := Int.fdiv_eq_ediv_of_nonneg _ (by decide)
  have FX := Fx.mk (And.intro @wrapB_mod <| And.intro @s1 <| And.intro @s2 <| @s3)
  repeat (first | refine v_ ?_ | refine u_ ?_ | refine f_ (ref02_Sum l) fun kf hkf => ?_ | refine o_ (ref02_Copied l (by omega)) fun mf kf hmf hkf => ?_ | refine nl_ ?_ | (refine nz_ ?_; first | (show aWp _ _ _ _ _) | skip) | refine sq_ ?_ | refine rg_ ?_ | refine k_ ?_ | refine ct_ ?_ | refine cf_ ?_ | refine bk_ ?_ | refine sc_ ?_ | (refine sk_ ?_; first | (show aWp _ _ _ _ _) | skip) | (refine ex_ ?_; first | (show aWp _ _ _ _ _) | skip) | refine rt_ ?_)
  (have FX := Fx.mk (And.intro @hse <| And.intro ((fun α : Type => @List.length_append α)) <| And.intro ((fun α : Type => @List.length_cons α)) <| ((fun α : Type => @List.length_nil α))); exact endo_ (rest := []) (kf + 1) Try.results30)
end Go.Proofs.Yteklnhogokjkkaa.AE
