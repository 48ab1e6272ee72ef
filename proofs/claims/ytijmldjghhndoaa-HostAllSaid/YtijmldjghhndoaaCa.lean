import Derived.IntWalk
import Derived.Laws.CopyOwn
import Derived.Laws.Tables
import Derived.Outline
import Derived.Test.YtijmldjghhndoaaFs
import Derived.Test.YtijmldjghhndoaaH0
import Derived.Test.YtijmldjghhndoaaHelp
import Derived.Test.YtijmldjghhndoaaNest
import Derived.Test.YtijmldjghhndoaaPl
import Derived.Test.YtijmldjghhndoaaPlan
import Derived.Test.YtijmldjghhndoaaRaw
import Derived.WalkSpells
namespace Go.Proofs.Ytijmldjghhndoaa.Hy
open Go.RowKit Go.Proofs.YtijmldjghhndoaaW.PrintWords Go.Proofs.YtijmldjghhndoaaW.PrintLast Go.Proofs.YtijmldjghhndoaaW.PrintMore
attribute [local go_sem] max2_int min2_int max_two min_two max_three min_three max_four min_four   -- for this text's walks alone
set_option linter.unusedVariables false
set_option linter.unusedSimpArgs false
def slices_Clone_byte_byte.f (l0 : List Int) : Option (List Int) := if l0.length < 140737488355328 then some l0 else none
set_option maxRecDepth 100000 in
theorem slices_Clone_byte_byte.calls (A0 : Option Addr) (c0 : Nat) (l0 : List Int) (r : List Int) (w : World) (hr0 : Kd.C (Kd.int .u8) w A0 l0.length l0) (hc0 : l0.length ≤ c0) (h : slices_Clone_byte_byte.f l0 = some r) :
    Calls Try.prog 37 #[.slice A0 l0.length c0] w fun e w' => ∃ v0_ : Value, e = .returned (v0_) ∧ Kd.R (Kd.int .u8) 5 w' w.heap.size (fun _ => True) v0_ r ∧ Below w.heap.size w w' := by
  unfold slices_Clone_byte_byte.f at h
  split at h
  case isFalse => cases h
  rename_i hg
  have h := Option.some.inj h
  subst h
  have HB := Aside0.mk (Below.refl w.heap.size w)
  have HR := Aside0.mk hr0
  clear hr0
  cases A0 with
  | none =>
    have hl : l0.length = 0 := by
      rcases Nat.eq_zero_or_pos l0.length with h0 | h0
      · exact h0
      · obtain ⟨ad, h, _⟩ := HR.out.2.2 h0
        cases h
    obtain rfl : l0 = [] := List.eq_nil_of_length_eq_zero hl
    have heq := fun (W : World) => Lib.run_eql_slice_nil (P := Try.prog) W 26 5 none 0 c0 0 0 Try.underlying26
    go_enter Try.func37, Try.ntmps37
    go_wp2
    go_ret
    exact ⟨_, rfl, Kd.R_nil _ _ _ _ _, HB.out⟩
  | some ad =>
    have heq := fun (W : World) => Lib.run_eql_slice_nil (P := Try.prog) W 26 5 (some ad) l0.length c0 0 0 Try.underlying26
    have hb0 := hb_new w #[] 5
    have HO := Aside0.mk (Kd.R_of_own (enc := Value.int .u8) (h1 := fun _ => rfl) (xs := []) (ok := fun _ => True) (own_head (base := w.heap.size) (m := 0) (cap := 0) (xs := []) hb0 (Nat.le_refl _) (by omega) (by unfold maxLen; omega) rfl rfl) (fun _ _ => trivial))
    have HB1 := Aside0.mk (below_alloc HB.out (.cells #[] 5))
    have HR1 := Aside0.mk (Kd.C_alloc HR.out (.cells #[] 5))
    clear hb0
    go_enter Try.func37, Try.ntmps37
    go_wp2_with (at_builtin; refine Kd.R_append_rows (Kd.int .u8) (w0 := w) w.heap.size rfl (.tmp 5) (.tmp 6) 26 5 (.int .u8 0) 1 rfl Try.underlying26 info5 rfl (by decide) (by omega) (.slice (some ⟨w.heap.size, 0, none⟩) 0 0) [] l0 (some ad) l0.length c0 (fun _ => True) (fun _ => False) rfl rfl HO.out HR1.out (fun _ _ h => h) (fun _ hk => hk.elim) (fun _ _ => trivial) HB1.out HB1.out.size (by simp; omega) ?_; intro v1 w1 hown1 hb1 hg1 hat1)
    go_ret
    exact ⟨_, rfl, by simpa using hown1, hb1⟩

set_option maxRecDepth 100000 in
theorem host_Check.odd (A : Option Addr) (n c : Nat) (w : World) : Calls Try.prog 42 #[.slice A n c] w fun e w' => e = .returned (.bool ((n : Int) != 64)) ∧ w' = w := by
  go_enter Try.func42, Try.ntmps42
  go_wp2
  go_ret
  exact ⟨rfl, rfl⟩
set_option maxRecDepth 100000 in
theorem host_Check.index1 (A : Option Addr) (c : Nat) (l : List (List Int)) (w : World) (hr : Kd.C (Kd.slice 5 (Kd.int .u8)) w A l.length l) : Calls Try.prog 53 #[.slice A l.length c, .func (.func 42) #[] #[]] w fun e w' => ∃ r : Int, e = .returned (.int .i64 r) ∧ decide (0 ≤ r) = l.any (fun x => (x.length : Int) != 64) ∧ w' = w := by
  have hmax := Kd.C_max hr
  have HR := Aside0.mk hr
  clear hr
  go_enter Try.func53, Try.ntmps53
  go_wp2
  go_loop [8] (fun k => ∃ i : Nat, i ≤ l.length ∧ k = .int .i64 i ∧ (l.take i).any (fun x => (x.length : Int) != 64) = false) (fun k => l.length - (intOf k).toNat)
  case atStart => exact ⟨0, Nat.zero_le _, rfl, rfl⟩
  case round =>
    obtain ⟨i, hi, rfl, hall⟩ := hrel
    have HALL := Aside0.mk hall
    clear hall
    by_cases hlt : i < l.length
    · obtain ⟨ad, rfl, hcell⟩ := HR.out.2.2 (by omega)
      obtain ⟨cs, hs, ⟨A', c', hcs, hle, hC⟩, hu⟩ := hcell i _ (List.getElem?_eq_getElem hlt)
      subst hcs
      have hu := hu 0 _ rfl
      have hx : w.cell? (ad.add i) = some (.slice A' l[i].length c') := by simpa [Kd.slice, Kd.int, Kd.scalar] using hu
      have hsn : (l.take (i + 1)).any (fun x => (x.length : Int) != 64) = ((l[i].length : Int) != 64) := by
        rw [List.take_add_one, List.getElem?_eq_getElem hlt, List.any_append, HALL.out]
        simp
      have HSN := Aside0.mk hsn
      have han : (l[i].length : Int) != 64 → l.any (fun x => (x.length : Int) != 64) = true := fun h => List.any_eq_true.2 ⟨l[i], List.getElem_mem hlt, h⟩
      have HAN := Aside0.mk han
      clear hu hcell hsn hle hC hs han
      generalize l[i].length = m at hx HSN HAN
      cases hm : ((m : Int) != 64)
      · go_wp2_with (go_at_call 42; refine (host_Check.odd _ _ _ _).mono ?_; rintro e w1 ⟨rfl, rfl⟩)
        exact ⟨⟨i + 1, by omega, by go_num, by rw [HSN.out, hm]⟩, by simp [intOf]; omega⟩
      · go_wp2_with (go_at_call 42; refine (host_Check.odd _ _ _ _).mono ?_; rintro e w1 ⟨rfl, rfl⟩)
        go_ret
        exact ⟨_, rfl, by rw [HAN.out hm]; simp, rfl⟩
    · obtain rfl : i = l.length := by omega
      go_wp2
      go_ret
      have := HALL.out
      rw [List.take_length] at this
      exact ⟨_, rfl, by rw [this]; decide, rfl⟩
set_option maxRecDepth 100000 in
theorem host_Check.contains1 (A : Option Addr) (c : Nat) (l : List (List Int)) (w : World) (hr : Kd.C (Kd.slice 5 (Kd.int .u8)) w A l.length l) : Calls Try.prog 43 #[.slice A l.length c, .func (.func 42) #[] #[]] w fun e w' => e = .returned (.bool (l.any (fun x => (x.length : Int) != 64))) ∧ w' = w := by
  have HR := Aside0.mk hr
  clear hr
  go_enter Try.func43, Try.ntmps43
  go_wp2_with (go_at_call 53; refine (host_Check.index1 _ _ _ _ HR.out).mono ?_; rintro e w1 ⟨r, rfl, hd, rfl⟩; have HD := Aside0.mk hd; clear hd)
  go_ret
  exact ⟨by rw [← HD.out]; rfl, rfl⟩
def host_Check.may (f0 f1 : Int) (n : Nat) (cap : Int) : Bool := (decide (f0 = 1) && decide (0 ≤ f1) && decide (f1 < cap) && decide (n = 64)) || (decide (f0 = 2) && decide (0 ≤ f1) && decide (f1 ≤ cap) && decide (n = 0))
set_option maxRecDepth 100000 in
set_option maxHeartbeats 2000000 in
theorem host_Check.mayc (f0 f1 : Int) (A : Option Addr) (n c : Nat) (cap : Int) (w : World) : Calls Try.prog 46 #[.agg #[.int .i64 f0, .int .i64 f1, .slice A n c], .int .i64 cap] w fun e w' => e = .returned (.bool (host_Check.may f0 f1 n cap)) ∧ Below w.heap.size w w' := by
  have HB := Aside0.mk (Below.refl w.heap.size w)
  by_cases h1 : f0 = 1
  · subst h1
    by_cases h2 : 0 ≤ f1
    · have h2b : decide (0 ≤ f1) = true := decide_eq_true h2
      by_cases h3 : f1 < cap
      · have h3b : decide (f1 < cap) = true := decide_eq_true h3
        have he : host_Check.may 1 f1 n cap = ((n : Int) == 64) := by
          simp [host_Check.may, h2, h3]
          by_cases hn : n = 64 <;> simp [hn] <;> omega
        rw [he]
        clear he h2 h3
        go_enter Try.func46, Try.ntmps46
        go_wp2
        go_ret
        exact ⟨rfl, below_alloc HB.out _⟩
      · have h3b : decide (f1 < cap) = false := decide_eq_false h3
        have he : host_Check.may 1 f1 n cap = false := by simp [host_Check.may, h3]
        rw [he]
        clear he h2 h3
        go_enter Try.func46, Try.ntmps46
        go_wp2
        go_ret
        exact ⟨rfl, below_alloc HB.out _⟩
    · have h2b : decide (0 ≤ f1) = false := decide_eq_false h2
      have he : host_Check.may 1 f1 n cap = false := by simp [host_Check.may, h2]
      rw [he]
      clear he h2
      go_enter Try.func46, Try.ntmps46
      go_wp2
      go_ret
      exact ⟨rfl, below_alloc HB.out _⟩
  by_cases h1' : f0 = 2
  · subst h1'
    clear h1
    by_cases h2 : 0 ≤ f1
    · have h2b : decide (0 ≤ f1) = true := decide_eq_true h2
      by_cases h3 : f1 ≤ cap
      · have h3b : decide (f1 ≤ cap) = true := decide_eq_true h3
        have he : host_Check.may 2 f1 n cap = ((n : Int) == 0) := by
          simp [host_Check.may, h2, h3]
          by_cases hn : n = 0 <;> simp [hn] <;> omega
        rw [he]
        clear he h2 h3
        go_enter Try.func46, Try.ntmps46
        go_wp2
        go_ret
        exact ⟨rfl, below_alloc HB.out _⟩
      · have h3b : decide (f1 ≤ cap) = false := decide_eq_false h3
        have he : host_Check.may 2 f1 n cap = false := by simp [host_Check.may, h3]
        rw [he]
        clear he h2 h3
        go_enter Try.func46, Try.ntmps46
        go_wp2
        go_ret
        exact ⟨rfl, below_alloc HB.out _⟩
    · have h2b : decide (0 ≤ f1) = false := decide_eq_false h2
      have he : host_Check.may 2 f1 n cap = false := by simp [host_Check.may, h2]
      rw [he]
      clear he h2
      go_enter Try.func46, Try.ntmps46
      go_wp2
      go_ret
      exact ⟨rfl, below_alloc HB.out _⟩
  have e1 : (f0 == 1) = false := beq_eq_false_iff_ne.2 h1
  have e2 : (f0 == 2) = false := beq_eq_false_iff_ne.2 h1'
  have he : host_Check.may f0 f1 n cap = false := by simp [host_Check.may, h1, h1']
  rw [he]
  clear he h1 h1'
  go_enter Try.func46, Try.ntmps46
  go_wp2
  go_ret
  exact ⟨rfl, below_alloc HB.out _⟩
set_option maxRecDepth 100000 in
theorem host_Check.bad (f0 f1 : Int) (A : Option Addr) (n c g : Nat) (cap : Int) (w : World) (hcap : w.cell? ⟨g, 2, none⟩ = some (.int .i64 cap)) (hg : g < w.heap.size) : Calls Try.prog 45 #[.agg #[.int .i64 f0, .int .i64 f1, .slice A n c], .pointer (some ⟨g, 0, none⟩)] w fun e w' => e = .returned (.bool (!host_Check.may f0 f1 n cap)) ∧ Below w.heap.size w w' := by
  have HB := Aside0.mk (below_alloc (Below.refl w.heap.size w) (.cells #[.int .i64 f0, .int .i64 f1, .slice A n c] 55))
  have hc2 : (w.alloc (.cells #[.int .i64 f0, .int .i64 f1, .slice A n c] 55)).cell? ⟨g, 2, none⟩ = some (.int .i64 cap) := by
    rw [← hcap]
    simp only [World.cell?]
    rw [(below_alloc (Below.refl w.heap.size w) _).block g hg]
  clear hcap hg
  go_enter Try.func45, Try.ntmps45
  go_wp2_with (go_at_call 46; refine (host_Check.mayc _ _ _ _ _ _ _).mono ?_; rintro e w1 ⟨rfl, hb⟩; have HB1 := Aside0.mk (below_step HB.out hb); clear hb)
  go_ret
  exact ⟨rfl, HB1.out⟩
def host_Check.badA (cap : Int) (x : S55) : Bool := !host_Check.may x.f0 x.f1 x.f2.length cap
set_option maxRecDepth 100000 in
theorem host_Check.index2 (A : Option Addr) (c g : Nat) (cap : Int) (l : List S55) (w : World) (hcap : w.cell? ⟨g, 2, none⟩ = some (.int .i64 cap)) (hg : g < w.heap.size) (hr : Kd.C k55 w A l.length l) : Calls Try.prog 54 #[.slice A l.length c, .func (.func 45) #[] #[.pointer (some ⟨g, 0, none⟩)]] w fun e w' => ∃ r : Int, e = .returned (.int .i64 r) ∧ decide (0 ≤ r) = l.any (host_Check.badA cap) ∧ Below w.heap.size w w' := by
  have hmax := Kd.C_max hr
  have HR := Aside0.mk hr
  have HB := Aside0.mk (Below.refl w.heap.size w)
  have hcp : ∀ W : World, Below w.heap.size w W → W.cell? ⟨g, 2, none⟩ = some (.int .i64 cap) ∧ g < W.heap.size := by
    intro W hW
    refine ⟨?_, Nat.lt_of_lt_of_le hg hW.size⟩
    rw [← hcap]
    simp only [World.cell?]
    rw [hW.block g hg]
  have HCP := Aside0.mk hcp
  clear hr hcp hcap hg
  go_enter Try.func54, Try.ntmps54
  go_wp2
  go_loopw [8] (fun k wr => ∃ i : Nat, i ≤ l.length ∧ k = .int .i64 i ∧ (l.take i).any (host_Check.badA cap) = false ∧ Aside0 (Below w.heap.size w wr)) (fun k _ => l.length - (intOf k).toNat)
  case atStart => exact ⟨0, Nat.zero_le _, rfl, rfl, HB⟩
  case round =>
    obtain ⟨i, hi, rfl, hall, HBW⟩ := hrel
    have HALL := Aside0.mk hall
    clear hall
    by_cases hlt : i < l.length
    · obtain ⟨ad, A', c', rfl, hx0, hx1, hx2, hle, hC⟩ := at_T55 (Kd.C_below HR.out HBW.out) (i : Int) (by omega) (by omega)
      have er : rd_T55 l (i : Int) = l[i] := by
        unfold rd_T55
        rw [Int.toNat_natCast, List.getD_eq_getElem?_getD, List.getElem?_eq_getElem hlt]
        rfl
      rw [er] at hx0 hx1 hx2
      rw [Int.toNat_natCast] at hx0 hx1 hx2
      have hsn : (l.take (i + 1)).any (host_Check.badA cap) = host_Check.badA cap l[i] := by
        rw [List.take_add_one, List.getElem?_eq_getElem hlt, List.any_append, HALL.out]
        simp
      have HSN := Aside0.mk hsn
      have han : host_Check.badA cap l[i] → l.any (host_Check.badA cap) = true := fun h => List.any_eq_true.2 ⟨l[i], List.getElem_mem hlt, h⟩
      have HAN := Aside0.mk han
      clear hle hC hsn han er
      have hbd : host_Check.badA cap l[i] = !host_Check.may l[i].f0 l[i].f1 l[i].f2.length cap := rfl
      rw [hbd] at HSN HAN
      clear hbd
      generalize l[i].f0 = y0 at hx0 HSN HAN
      generalize l[i].f1 = y1 at hx1 HSN HAN
      generalize l[i].f2.length = m at hx2 HSN HAN
      obtain ⟨hcc, hgg⟩ := HCP.out wr HBW.out
      have HCC := Aside0.mk hcc
      have HGG := Aside0.mk hgg
      clear hcc hgg
      have hbad := fun (c : Nat) => host_Check.bad y0 y1 A' m c g cap wr HCC.out HGG.out
      have HBAD := Aside0.mk hbad
      clear hbad
      cases hm : (!host_Check.may y0 y1 m cap)
      · rw [hm] at HBAD
        go_wp2_with (go_at_call 45; refine (HBAD.out _).mono ?_; rintro e w1 ⟨rfl, hb⟩; have HB1 := Aside0.mk (below_step HBW.out hb); clear hb)
        go_roundw
        case rel => exact ⟨i + 1, by omega, by go_num, by rw [HSN.out, hm], HB1⟩
        case measure => simp [intOf]; omega
      · rw [hm] at HBAD
        go_wp2_with (go_at_call 45; refine (HBAD.out _).mono ?_; rintro e w1 ⟨rfl, hb⟩; have HB1 := Aside0.mk (below_step HBW.out hb); clear hb)
        go_ret
        exact ⟨_, rfl, by rw [HAN.out hm]; simp, HB1.out⟩
    · obtain rfl : i = l.length := by omega
      go_wp2
      go_ret
      have := HALL.out
      rw [List.take_length] at this
      exact ⟨_, rfl, by rw [this]; decide, HBW.out⟩
set_option maxRecDepth 100000 in
theorem host_Check.contains2 (A : Option Addr) (c g : Nat) (cap : Int) (l : List S55) (w : World) (hcap : w.cell? ⟨g, 2, none⟩ = some (.int .i64 cap)) (hg : g < w.heap.size) (hr : Kd.C k55 w A l.length l) : Calls Try.prog 44 #[.slice A l.length c, .func (.func 45) #[] #[.pointer (some ⟨g, 0, none⟩)]] w fun e w' => e = .returned (.bool (l.any (host_Check.badA cap))) ∧ Below w.heap.size w w' := by
  have HI := Aside0.mk (host_Check.index2 A c g cap l w hcap hg hr)
  clear hr hcap hg
  go_enter Try.func44, Try.ntmps44
  go_wp2_with (go_at_call 54; refine HI.out.mono ?_; rintro e w1 ⟨r, rfl, hd, hb⟩; have HD := Aside0.mk hd; have HB := Aside0.mk hb; clear hd hb)
  go_ret
  exact ⟨by rw [← HD.out]; rfl, HB.out⟩
def host_Check.chk (ss : List (List Int)) (ws : List S55) (cap : Int) : Int := if cap < 1 ∨ 65536 < cap ∨ cap < (ss.length : Int) ∨ ss.any (fun x => (x.length : Int) != 64) = true ∨ 4096 < (ws.length : Int) ∨ ws.any (host_Check.badA cap) = true then 9 else 0
def host_Check.f (l0_0 : List (List Int)) (l0_1 : List (S55)) (a0_2 : Int) : Option (Int) := some (host_Check.chk l0_0 l0_1 a0_2)
set_option maxRecDepth 100000 in
set_option maxHeartbeats 4000000 in
theorem host_Check.calls (A0_0 : Option Addr) (c0_0 : Nat) (l0_0 : List (List Int)) (A0_1 : Option Addr) (c0_1 : Nat) (l0_1 : List (S55)) (a0_2 : Int) (r : Int) (w : World) (hr0_0 : Kd.C (Kd.slice 5 (Kd.int .u8)) w A0_0 l0_0.length l0_0) (hc0_0 : l0_0.length ≤ c0_0) (hr0_1 : Kd.C k55 w A0_1 l0_1.length l0_1) (hc0_1 : l0_1.length ≤ c0_1) (h : host_Check.f l0_0 l0_1 a0_2 = some r) :
    Calls Try.prog 20 #[.agg #[.slice A0_0 l0_0.length c0_0, .slice A0_1 l0_1.length c0_1, .int .i64 a0_2]] w fun e w' => e = .returned (.int .i64 r) ∧ Below w.heap.size w w' := by
  have h := Option.some.inj h
  subst h
  have hb0 := below_alloc (Below.refl w.heap.size w) (.cells #[.slice A0_0 l0_0.length c0_0, .slice A0_1 l0_1.length c0_1, .int .i64 a0_2] 30)
  have hnew := hb_new w #[.slice A0_0 l0_0.length c0_0, .slice A0_1 l0_1.length c0_1, .int .i64 a0_2] 30
  have hk1 := hb_cell hnew 0
  have hk2 := hb_cell hnew 1
  have hk3 := hb_cell hnew 2
  have HC1 := Aside0.mk (host_Check.contains1 A0_0 c0_0 l0_0 _ (Kd.C_below hr0_0 hb0))
  have HC2 := Aside0.mk (host_Check.contains2 A0_1 c0_1 w.heap.size a0_2 l0_1 _ (hk3.trans rfl) (by show w.heap.size < (w.heap.push _).size; rw [Array.size_push]; omega) (Kd.C_below hr0_1 hb0))
  have HB := Aside0.mk hb0
  clear hr0_0 hr0_1 hc0_0 hc0_1 hb0 hnew hk1 hk2 hk3
  have HF : Aside0 (host_Check.chk l0_0 l0_1 a0_2 = if a0_2 < 1 ∨ 65536 < a0_2 ∨ a0_2 < (l0_0.length : Int) ∨ l0_0.any (fun x => (x.length : Int) != 64) = true ∨ 4096 < (l0_1.length : Int) ∨ l0_1.any (host_Check.badA a0_2) = true then 9 else 0) := ⟨rfl⟩
  generalize host_Check.chk l0_0 l0_1 a0_2 = z at HF ⊢
  generalize l0_0.any (fun x => (x.length : Int) != 64) = y1 at HF HC1
  generalize l0_1.any (host_Check.badA a0_2) = y2 at HF HC2
  generalize l0_0.length = n1 at HF HC1 HC2 HB ⊢
  generalize l0_1.length = n2 at HF HC1 HC2 HB ⊢
  by_cases q1 : a0_2 < 1
  · have q1b : decide (a0_2 < 1) = true := decide_eq_true q1
    have hz : z = 9 := by rw [HF.out]; exact if_pos (by first | exact .inl q1 | exact .inr (.inl q1) | exact .inr (.inr (.inl q1)) | exact .inr (.inr (.inr (.inr (.inl q1)))))
    subst hz
    clear q1
    go_enter Try.func20, Try.ntmps20
    go_wp2
    go_ret
    exact ⟨rfl, HB.out⟩
  · have q1b : decide (a0_2 < 1) = false := decide_eq_false q1
    by_cases q2 : 65536 < a0_2
    · have q2b : decide (65536 < a0_2) = true := decide_eq_true q2
      have hz : z = 9 := by rw [HF.out]; exact if_pos (by first | exact .inl q2 | exact .inr (.inl q2) | exact .inr (.inr (.inl q2)) | exact .inr (.inr (.inr (.inr (.inl q2)))))
      subst hz
      clear q2
      go_enter Try.func20, Try.ntmps20
      go_wp2
      go_ret
      exact ⟨rfl, HB.out⟩
    · have q2b : decide (65536 < a0_2) = false := decide_eq_false q2
      by_cases q3 : a0_2 < (n1 : Int)
      · have q3b : decide (a0_2 < (n1 : Int)) = true := decide_eq_true q3
        have hz : z = 9 := by rw [HF.out]; exact if_pos (by first | exact .inl q3 | exact .inr (.inl q3) | exact .inr (.inr (.inl q3)) | exact .inr (.inr (.inr (.inr (.inl q3)))))
        subst hz
        clear q3
        go_enter Try.func20, Try.ntmps20
        go_wp2
        go_ret
        exact ⟨rfl, HB.out⟩
      · have q3b : decide (a0_2 < (n1 : Int)) = false := decide_eq_false q3
        cases y1 with
        | true =>
          have hz : z = 9 := by rw [HF.out]; exact if_pos (.inr (.inr (.inr (.inl rfl))))
          subst hz
          go_enter Try.func20, Try.ntmps20
          go_wp2_with (go_at_call 43; refine HC1.out.mono ?_; rintro e w1 ⟨rfl, rfl⟩)
          go_ret
          exact ⟨rfl, HB.out⟩
        | false =>
          by_cases q5 : 4096 < (n2 : Int)
          · have q5b : decide (4096 < (n2 : Int)) = true := decide_eq_true q5
            have hz : z = 9 := by rw [HF.out]; exact if_pos (by first | exact .inl q5 | exact .inr (.inl q5) | exact .inr (.inr (.inl q5)) | exact .inr (.inr (.inr (.inr (.inl q5)))))
            subst hz
            clear q5
            go_enter Try.func20, Try.ntmps20
            go_wp2_with (go_at_call 43; refine HC1.out.mono ?_; rintro e w1 ⟨rfl, rfl⟩)
            go_ret
            exact ⟨rfl, HB.out⟩
          · have q5b : decide (4096 < (n2 : Int)) = false := decide_eq_false q5
            cases y2 with
            | true =>
              have hz : z = 9 := by rw [HF.out]; exact if_pos (.inr (.inr (.inr (.inr (.inr rfl)))))
              subst hz
              go_enter Try.func20, Try.ntmps20
              go_wp2_with (go_at_call 43; refine HC1.out.mono ?_; rintro e w1 ⟨rfl, rfl⟩)
              go_wp2_with (go_at_call 44; refine HC2.out.mono ?_; rintro e w2 ⟨rfl, hb⟩; have HB2 := Aside0.mk (below_step HB.out hb); clear hb)
              go_ret
              exact ⟨rfl, HB2.out⟩
            | false =>
              have hz : z = 0 := by rw [HF.out]; exact if_neg (by rintro (h | h | h | h | h | h) <;> first | omega | cases h)
              subst hz
              go_enter Try.func20, Try.ntmps20
              go_wp2_with (go_at_call 43; refine HC1.out.mono ?_; rintro e w1 ⟨rfl, rfl⟩)
              go_wp2_with (go_at_call 44; refine HC2.out.mono ?_; rintro e w2 ⟨rfl, hb⟩; have HB2 := Aside0.mk (below_step HB.out hb); clear hb)
              go_ret
              exact ⟨rfl, HB2.out⟩

set_option maxRecDepth 100000 in
theorem slices_Clone_bb.shallow (A0 : Option Addr) (c0 : Nat) (ls : List (List Value)) (w : World) (hr0 : Kd.C (Kd.raw 1) w A0 ls.length ls) (hg : ls.length * 24 ≤ 140737488355328) :
    Calls Try.prog 51 #[.slice A0 ls.length c0] w fun e w' => ∃ v0_ : Value, e = .returned v0_ ∧ w'.ownsRow w.heap.size 26 1 v0_ ls.length ls.flatten ∧ Below w.heap.size w w' := by
  have HB := Aside0.mk (Below.refl w.heap.size w)
  have HR := Aside0.mk hr0
  clear hr0
  cases A0 with
  | none =>
    have hl : ls.length = 0 := by
      rcases Nat.eq_zero_or_pos ls.length with h0 | h0
      · exact h0
      · obtain ⟨ad, h, _⟩ := HR.out.2.2 h0
        cases h
    obtain rfl : ls = [] := List.eq_nil_of_length_eq_zero hl
    have heq := fun (W : World) => Lib.run_eql_slice_nil (P := Try.prog) W 22 26 none 0 c0 0 0 Try.underlying22
    go_enter Try.func51, Try.ntmps51
    go_wp2
    go_ret
    exact ⟨_, rfl, own_nil _ _ _ _, HB.out⟩
  | some ad =>
    have heq := fun (W : World) => Lib.run_eql_slice_nil (P := Try.prog) W 22 26 (some ad) ls.length c0 0 0 Try.underlying22
    have hb0 := hb_new w #[] 26
    have HO := Aside0.mk (show Kd.R (Kd.raw 1) 26 (w.alloc (.cells #[] 26)) w.heap.size (fun _ => True) (.slice (some ⟨w.heap.size, 0, none⟩) 0 0) [] from ⟨fun _ _ => trivial, [], ⟨rfl, .inr ⟨w.heap.size, 0, #[], rfl, Nat.le_refl _, hb0, Nat.le_refl _, Nat.zero_le _, rfl, rfl⟩⟩, Reps.none _ _⟩)
    have HB1 := Aside0.mk (below_alloc HB.out (.cells #[] 26))
    have HR1 := Aside0.mk (Kd.C_alloc HR.out (.cells #[] 26))
    clear hb0
    have hinfo : (Try.prog.info? 26).map (fun i => (i.zero, i.size, i.bytes)) = some (some (.slice none 0 0), 1, 24) := by kernel_rfl
    have HI := Aside0.mk hinfo
    clear hinfo
    go_enter Try.func51, Try.ntmps51
    go_wp2_with (at_builtin; refine Kd.R_append_rows (Kd.raw 1) (w0 := w) w.heap.size rfl (.tmp 5) (.tmp 6) 22 26 (.slice none 0 0) 24 rfl Try.underlying22 HI.out rfl (by decide) (by omega) (.slice (some ⟨w.heap.size, 0, none⟩) 0 0) [] ls (some ad) ls.length c0 (fun _ => True) (fun _ => False) rfl rfl HO.out HR1.out (fun _ _ h => h) (fun _ hk => hk.elim) (fun _ _ => trivial) HB1.out HB1.out.size (by simp; omega) ?_; intro v1 w1 hown1 hb1 hg1 hat1)
    go_ret
    refine ⟨_, rfl, ?_, hb1⟩
    rw [List.nil_append] at hown1
    exact (raw_own hown1).1
set_option maxRecDepth 100000 in
theorem slices_Clone_act.shallow (A0 : Option Addr) (c0 : Nat) (ls : List (List Value)) (w : World) (hr0 : Kd.C (Kd.raw 3) w A0 ls.length ls) (hg : ls.length * 40 ≤ 140737488355328) :
    Calls Try.prog 52 #[.slice A0 ls.length c0] w fun e w' => ∃ v0_ : Value, e = .returned v0_ ∧ w'.ownsRow w.heap.size 55 3 v0_ ls.length ls.flatten ∧ Below w.heap.size w w' := by
  have HB := Aside0.mk (Below.refl w.heap.size w)
  have HR := Aside0.mk hr0
  clear hr0
  cases A0 with
  | none =>
    have hl : ls.length = 0 := by
      rcases Nat.eq_zero_or_pos ls.length with h0 | h0
      · exact h0
      · obtain ⟨ad, h, _⟩ := HR.out.2.2 h0
        cases h
    obtain rfl : ls = [] := List.eq_nil_of_length_eq_zero hl
    have heq := fun (W : World) => Lib.run_eql_slice_nil (P := Try.prog) W 28 55 none 0 c0 0 0 Try.underlying28
    go_enter Try.func52, Try.ntmps52
    go_wp2
    go_ret
    exact ⟨_, rfl, own_nil _ _ _ _, HB.out⟩
  | some ad =>
    have heq := fun (W : World) => Lib.run_eql_slice_nil (P := Try.prog) W 28 55 (some ad) ls.length c0 0 0 Try.underlying28
    have hb0 := hb_new w #[] 55
    have HO := Aside0.mk (show Kd.R (Kd.raw 3) 55 (w.alloc (.cells #[] 55)) w.heap.size (fun _ => True) (.slice (some ⟨w.heap.size, 0, none⟩) 0 0) [] from ⟨fun _ _ => trivial, [], ⟨rfl, .inr ⟨w.heap.size, 0, #[], rfl, Nat.le_refl _, hb0, Nat.le_refl _, Nat.zero_le _, rfl, rfl⟩⟩, Reps.none _ _⟩)
    have HB1 := Aside0.mk (below_alloc HB.out (.cells #[] 55))
    have HR1 := Aside0.mk (Kd.C_alloc HR.out (.cells #[] 55))
    clear hb0
    have hinfo : (Try.prog.info? 55).map (fun i => (i.zero, i.size, i.bytes)) = some (some (.agg #[.int .i64 0, .int .i64 0, .slice none 0 0]), 3, 40) := by kernel_rfl
    have HI := Aside0.mk hinfo
    clear hinfo
    go_enter Try.func52, Try.ntmps52
    go_wp2_with (at_builtin; refine Kd.R_append_rows (Kd.raw 3) (w0 := w) w.heap.size rfl (.tmp 5) (.tmp 6) 28 55 (.agg #[.int .i64 0, .int .i64 0, .slice none 0 0]) 40 rfl Try.underlying28 HI.out rfl (by decide) (by omega) (.slice (some ⟨w.heap.size, 0, none⟩) 0 0) [] ls (some ad) ls.length c0 (fun _ => True) (fun _ => False) rfl rfl HO.out HR1.out (fun _ _ h => h) (fun _ hk => hk.elim) (fun _ _ => trivial) HB1.out HB1.out.size (by simp; omega) ?_; intro v1 w1 hown1 hb1 hg1 hat1)
    go_ret
    refine ⟨_, rfl, ?_, hb1⟩
    rw [List.nil_append] at hown1
    exact (raw_own hown1).1
def acells : List S55 → List Value → List Value
  | a :: as_, v :: vs => .int .i64 a.f0 :: .int .i64 a.f1 :: v :: acells as_ vs
  | _, _ => []
theorem acells_length : ∀ (as_ : List S55) (vs : List Value), as_.length = vs.length → (acells as_ vs).length = 3 * vs.length
  | [], [], _ => rfl
  | a :: as_, v :: vs, h => by
    have := acells_length as_ vs (by simpa using h)
    simp [acells, this]
    omega
theorem acells_snoc : ∀ (as_ : List S55) (vs : List Value) (a : S55) (v : Value), as_.length = vs.length → acells (as_ ++ [a]) (vs ++ [v]) = acells as_ vs ++ [.int .i64 a.f0, .int .i64 a.f1, v]
  | [], [], a, v, _ => rfl
  | b :: as_, u :: vs, a, v, h => by
    have := acells_snoc as_ vs a v (by simpa using h)
    simp [acells, this]
/-- The first loop: the first i sectors are copies. -/
def host_Clone.L1 (w : World) (v0 v1 : Value) (cap : Int) (cs0 : List Value) (l0 : List (List Int)) (ls1 : List (List Value)) (i : Nat) (W : World) : Prop :=
  ∃ us, W.heap[w.heap.size]? = some (.cells #[v0, v1, .int .i64 cap] 30 (0, 0)) ∧ W.heap[w.heap.size + 1]? = some (.cells #[.slice none 0 0, .slice none 0 0, .int .i64 0] 30 (0, 0)) ∧
    W.ownsRow w.heap.size 26 1 v0 l0.length us ∧ W.ownsRow w.heap.size 55 3 v1 ls1.length ls1.flatten ∧ Nest (Kd.int .u8) 5 W w.heap.size (us.take i) (l0.take i) ∧
    (∀ j, i ≤ j → us[j]? = cs0[j]?) ∧ Below w.heap.size w W
theorem host_Clone.step1 {w W W1 : World} {g k : Nat} {v1 : Value} {cap : Int} {cs0 : List Value} {l0 : List (List Int)} {ls1 : List (List Value)} {i : Nat} {vi : Value} (h : host_Clone.L1 w (.slice (some ⟨g, 0, none⟩) l0.length k) v1 cap cs0 l0 ls1 i W) (hi : i < l0.length)
    (hR : Kd.R (Kd.int .u8) 5 W1 W.heap.size (fun _ => True) vi l0[i]) (hb : Below W.heap.size W W1) : host_Clone.L1 w (.slice (some ⟨g, 0, none⟩) l0.length k) v1 cap cs0 l0 ls1 (i + 1) (W1.setCell ⟨g, i, none⟩ vi) := by
  obtain ⟨us, h1, h2, h3, h4, h5, h6, h7⟩ := h
  have hul : us.length = l0.length := by have := h3.1; omega
  have a1 := (blk_below h1 hb)
  have a2 := (blk_below h2 hb)
  have a3 := pw_own_below h3 hb
  have a4 := pw_own_below h4 hb
  have a5 := h5.below hb
  have a7 := below_step h7 hb
  obtain ⟨cells, hc⟩ := own_typed a3 g rfl
  have hg : w.heap.size ≤ g := own_base a3 g rfl
  have hgv : ∀ k, v1.ownBlock = some k → k ≠ g := by
    rintro k hk rfl
    obtain ⟨cells', hc'⟩ := own_typed a4 k hk
    rw [hc] at hc'
    simp at hc'
  have hset : us.set i vi = us.take i ++ vi :: us.drop (i + 1) := by rw [List.set_eq_take_append_cons_drop, if_pos (by omega)]
  refine ⟨us.set i vi, ?_, ?_, (a3.stored i vi).1, ?_, ?_, fun j hj => ?_, a7.setCell hg _⟩
  · rw [Below.heap_setCell]
    · exact a1
    · rintro rfl
      rw [a1] at hc
      simp at hc
  · rw [Below.heap_setCell]
    · exact a2
    · rintro rfl
      rw [a2] at hc
      simp at hc
  · exact own_move a4 fun k hk => Below.heap_setCell _ _ _ _ (hgv k hk)
  · have e1 : (us.set i vi).take (i + 1) = us.take i ++ [vi] := by
      rw [hset, List.take_append, List.length_take, Nat.min_eq_left (by omega), List.take_of_length_le (by simp; omega)]
      simp
    have e2 : l0.take (i + 1) = l0.take i ++ [l0[i]] := by rw [List.take_succ_eq_append_getElem hi]
    rw [e1, e2]
    refine Nest.snoc (a5.set hc (by decide) i vi) rfl (Kd.R_lower (Kd.R_set hR hc (by decide) i vi) h7.size) fun u hu k hk hk' => ?_
    have := (h5.lt hu hk).2.1
    have := Kd.R_base hR k hk'
    omega
  · rw [List.getElem?_set_ne (by omega)]
    exact h6 j (by omega)
/-- The second loop: the first i acts have octets of their own. -/
def host_Clone.L2 (w : World) (v0 v1 : Value) (cap : Int) (l0 : List (List Int)) (l1 : List S55) (ls1 : List (List Value)) (i : Nat) (W : World) : Prop :=
  ∃ us ws, W.heap[w.heap.size]? = some (.cells #[v0, v1, .int .i64 cap] 30 (0, 0)) ∧ W.heap[w.heap.size + 1]? = some (.cells #[.slice none 0 0, .slice none 0 0, .int .i64 0] 30 (0, 0)) ∧
    W.ownsRow w.heap.size 26 1 v0 l0.length us ∧ W.ownsRow w.heap.size 55 3 v1 l1.length (acells (l1.take i) ws ++ (ls1.drop i).flatten) ∧ ws.length = i ∧
    Nest (Kd.int .u8) 5 W w.heap.size (us ++ ws) (l0 ++ (l1.take i).map (·.f2)) ∧ Below w.heap.size w W
theorem host_Clone.two {w W : World} {v0 v1 : Value} {cap : Int} {cs0 : List Value} {l0 : List (List Int)} {l1 : List S55} {ls1 : List (List Value)} (h : host_Clone.L1 w v0 v1 cap cs0 l0 ls1 l0.length W) (hl : ls1.length = l1.length) : host_Clone.L2 w v0 v1 cap l0 l1 ls1 0 W := by
  obtain ⟨us, h1, h2, h3, h4, h5, h6, h7⟩ := h
  have hul : us.length = l0.length := by have := h3.1; omega
  rw [hl] at h4
  rw [List.take_of_length_le (by omega), List.take_of_length_le (Nat.le_refl _)] at h5
  exact ⟨us, [], h1, h2, h3, by simpa [acells] using h4, rfl, by simpa using h5, h7⟩
theorem host_Clone.step2 {w W W1 : World} {g k : Nat} {v0 : Value} {cap : Int} {l0 : List (List Int)} {l1 : List S55} {ls1 : List (List Value)} {i : Nat} {vi old : Value} (h : host_Clone.L2 w v0 (.slice (some ⟨g, 0, none⟩) l1.length k) cap l0 l1 ls1 i W) (hi : i < l1.length) (hl : ls1.length = l1.length)
    (ho : ls1[i]? = some [.int .i64 l1[i].f0, .int .i64 l1[i].f1, old]) (hR : Kd.R (Kd.int .u8) 5 W1 W.heap.size (fun _ => True) vi l1[i].f2) (hb : Below W.heap.size W W1) : host_Clone.L2 w v0 (.slice (some ⟨g, 0, none⟩) l1.length k) cap l0 l1 ls1 (i + 1) (W1.setCell ⟨g, i * 3 + 2, none⟩ vi) := by
  obtain ⟨us, ws, h1, h2, h3, h4, hw, h5, h7⟩ := h
  have a1 := (blk_below h1 hb)
  have a2 := (blk_below h2 hb)
  have a3 := pw_own_below h3 hb
  have a4 := pw_own_below h4 hb
  have a5 := h5.below hb
  have a7 := below_step h7 hb
  obtain ⟨cells, hc⟩ := own_typed a4 g rfl
  have hg : w.heap.size ≤ g := own_base a4 g rfl
  have hgv : ∀ k, v0.ownBlock = some k → k ≠ g := by
    rintro k hk rfl
    obtain ⟨cells', hc'⟩ := own_typed a3 k hk
    rw [hc] at hc'
    simp at hc'
  have e2 : l1.take (i + 1) = l1.take i ++ [l1[i]] := by rw [List.take_succ_eq_append_getElem hi]
  have hlt : i < ls1.length := by omega
  have e3 : ls1.drop i = [.int .i64 l1[i].f0, .int .i64 l1[i].f1, old] :: ls1.drop (i + 1) := by
    rw [List.drop_eq_getElem_cons hlt]
    congr 1
    exact Option.some.inj ((List.getElem?_eq_getElem hlt).symm.trans ho)
  have e4 : (acells (l1.take i) ws).length = i * 3 := by rw [acells_length _ _ (by simp; omega), hw, Nat.mul_comm]
  have e5 : (acells (l1.take i) ws ++ (ls1.drop i).flatten).set (i * 3 + 2) vi = acells (l1.take (i + 1)) (ws ++ [vi]) ++ (ls1.drop (i + 1)).flatten := by
    rw [e3, List.set_append_right _ _ (by omega), e4, Nat.add_sub_cancel_left, e2, acells_snoc _ _ _ _ (by simp; omega)]
    simp
  refine ⟨us, ws ++ [vi], ?_, ?_, ?_, ?_, by simp [hw], ?_, a7.setCell hg _⟩
  · rw [Below.heap_setCell]
    · exact a1
    · rintro rfl
      rw [a1] at hc
      simp at hc
  · rw [Below.heap_setCell]
    · exact a2
    · rintro rfl
      rw [a2] at hc
      simp at hc
  · exact own_move a3 fun k hk => Below.heap_setCell _ _ _ _ (hgv k hk)
  · rw [← e5]
    exact (a4.stored (i * 3 + 2) vi).1
  · rw [e2, List.map_append, ← List.append_assoc, ← List.append_assoc]
    refine Nest.snoc (a5.set hc (by decide) _ vi) rfl (Kd.R_lower (Kd.R_set hR hc (by decide) _ vi) h7.size) fun u hu k hk hk' => ?_
    have := (h5.lt hu hk).2.1
    have := Kd.R_base hR k hk'
    omega
theorem host_Clone.L2.below {w W W1 : World} {v0 v1 : Value} {cap : Int} {l0 : List (List Int)} {l1 : List S55} {ls1 : List (List Value)} {i : Nat} (h : host_Clone.L2 w v0 v1 cap l0 l1 ls1 i W) (hb : Below W.heap.size W W1) : host_Clone.L2 w v0 v1 cap l0 l1 ls1 i W1 := by
  obtain ⟨us, ws, h1, h2, h3, h4, hw, h5, h7⟩ := h
  exact ⟨us, ws, blk_below h1 hb, blk_below h2 hb, pw_own_below h3 hb, pw_own_below h4 hb, hw, h5.below hb, below_step h7 hb⟩
theorem host_Clone.fin {w W : World} {v0 v1 : Value} {cap : Int} {l0 : List (List Int)} {l1 : List S55} {ls1 : List (List Value)} (h : host_Clone.L2 w v0 v1 cap l0 l1 ls1 l1.length W) (hl : ls1.length = l1.length) (x y z : Value) :
    let W3 := ((W.setCell ⟨w.heap.size + 1, 0, none⟩ x).setCell ⟨w.heap.size + 1, 1, none⟩ y).setCell ⟨w.heap.size + 1, 2, none⟩ z
    W3.heap[w.heap.size + 1]? = some (.cells #[x, y, z] 30 (0, 0)) ∧ ∃ us ws, W3.ownsRow w.heap.size 26 1 v0 l0.length us ∧ W3.ownsRow w.heap.size 55 3 v1 l1.length (acells l1 ws) ∧ Nest (Kd.int .u8) 5 W3 w.heap.size (us ++ ws) (l0 ++ l1.map (·.f2)) ∧ Below w.heap.size w W3 := by
  obtain ⟨us, ws, b1, b2, o0, o1, hw, nst, bel⟩ := h
  rw [List.take_of_length_le (Nat.le_refl _), List.drop_of_length_le (by omega)] at o1
  rw [List.take_of_length_le (Nat.le_refl _)] at nst
  simp only [List.flatten_nil, List.append_nil] at o1
  have c1 := hb_set b2 0 x
  have c2 := hb_set c1 1 y
  have n0 : some (w.heap.size + 1) ≠ v0.ownBlock := fun e => by
    obtain ⟨cs, hc⟩ := own_typed o0 _ e.symm
    rw [b2] at hc
    simp at hc
  have n1 : some (w.heap.size + 1) ≠ v1.ownBlock := fun e => by
    obtain ⟨cs, hc⟩ := own_typed o1 _ e.symm
    rw [b2] at hc
    simp at hc
  exact ⟨by simpa using hb_set c2 2 z, us, ws, own_setCell (own_setCell (own_setCell o0 n0 _) n0 _) n0 _, own_setCell (own_setCell (own_setCell o1 n1 _) n1 _) n1 _, ((nst.set b2 (by decide) 0 x).set c1 (by decide) 1 y).set c2 (by decide) 2 z,
    below_set (below_set (below_set bel (by omega)) (by omega)) (by omega)⟩
set_option maxRecDepth 100000 in
set_option maxHeartbeats 2000000 in
theorem host_Clone.walk (A0 : Option Addr) (c0 : Nat) (l0 : List (List Int)) (A1 : Option Addr) (c1 : Nat) (l1 : List S55) (cap : Int) (w : World) (cs0 : List Value) (ls1 : List (List Value)) (hl1 : ls1.length = l1.length)
    (H1 : ∀ W : World, Below w.heap.size w W → Calls Try.prog 51 #[.slice A0 l0.length c0] W fun e w' => ∃ v, e = .returned v ∧ w'.ownsRow W.heap.size 26 1 v l0.length cs0 ∧ Below W.heap.size W w')
    (H2 : ∀ W : World, Below w.heap.size w W → Calls Try.prog 52 #[.slice A1 l1.length c1] W fun e w' => ∃ v, e = .returned v ∧ w'.ownsRow W.heap.size 55 3 v ls1.length ls1.flatten ∧ Below W.heap.size W w')
    (hk0 : ∀ i (h : i < l0.length), ∃ A c, cs0[i]? = some (.slice A l0[i].length c) ∧ ∀ W : World, Below w.heap.size w W → Calls Try.prog 37 #[.slice A l0[i].length c] W fun e w' => ∃ v, e = .returned v ∧ Kd.R (Kd.int .u8) 5 w' W.heap.size (fun _ => True) v l0[i] ∧ Below W.heap.size W w')
    (hk1 : ∀ i (h : i < l1.length), ∃ A c, ls1[i]? = some [.int .i64 l1[i].f0, .int .i64 l1[i].f1, .slice A l1[i].f2.length c] ∧ ∀ W : World, Below w.heap.size w W → Calls Try.prog 37 #[.slice A l1[i].f2.length c] W fun e w' => ∃ v, e = .returned v ∧ Kd.R (Kd.int .u8) 5 w' W.heap.size (fun _ => True) v l1[i].f2 ∧ Below W.heap.size W w') :
    Calls Try.prog 40 #[.agg #[.slice A0 l0.length c0, .slice A1 l1.length c1, .int .i64 cap]] w fun e w' => ∃ v0 v1 us ws, e = .returned (.agg #[v0, v1, .int .i64 cap]) ∧
      w'.ownsRow w.heap.size 26 1 v0 l0.length us ∧ w'.ownsRow w.heap.size 55 3 v1 l1.length (acells l1 ws) ∧ Nest (Kd.int .u8) 5 w' w.heap.size (us ++ ws) (l0 ++ l1.map (·.f2)) ∧ Below w.heap.size w w' := by
  have HH1 := Aside0.mk H1
  have HH2 := Aside0.mk H2
  have HK0 := Aside0.mk hk0
  have HK1 := Aside0.mk hk1
  have HL := Aside0.mk hl1
  clear H1 H2 hk0 hk1 hl1
  go_enter Try.func40, Try.ntmps40
  go_wp2
  have hb0 := hb_new w #[.slice A0 l0.length c0, .slice A1 l1.length c1, .int .i64 cap] 30
  have hbl1 := below_alloc (Below.refl w.heap.size w) (.cells #[.slice A0 l0.length c0, .slice A1 l1.length c1, .int .i64 cap] 30)
  have hbx : ∀ o, ((w.alloc (.cells #[.slice A0 l0.length c0, .slice A1 l1.length c1, .int .i64 cap] 30)).alloc o).drew.heap[w.heap.size]? = some (.cells #[.slice A0 l0.length c0, .slice A1 l1.length c1, .int .i64 cap] 30 (0, 0)) := fun o => (Below.heap_alloc _ o _ (by simp)).trans hb0
  refine plan_region [(0, .pure), (1, .quiet), (3, .pure), (4, .quiet), (2, .loud), (6, .pure), (5, .loud), (7, .last), (8, .pure), (9, .last)] [7, 9] (fun W => W.heap[w.heap.size]? = some (.cells #[.slice A0 l0.length c0, .slice A1 l1.length c1, .int .i64 cap] 30 (0, 0))) (by kernel_rfl) (by kernel_rfl) (by decide) (fun _ _ _ _ _ h => h) (hbx _) ?_
  intro hS
  simp only [planOps, List.getElem?_toArray, List.getElem?_cons_zero, List.getElem?_cons_succ, List.cons_append, List.nil_append, Act.put, List.setIfInBounds_toArray, List.set_cons_succ, List.set_cons_zero]
  have hS0 := hb_new (w.alloc (.cells #[.slice A0 l0.length c0, .slice A1 l1.length c1, .int .i64 cap] 30)) #[.slice none 0 0, .slice none 0 0, .int .i64 0] 30
  have hbl2 := below_drew (below_alloc hbl1 (.cells #[.slice none 0 0, .slice none 0 0, .int .i64 0] 30))
  have HS := Aside0.mk hS
  have HS0 := Aside0.mk hS0
  have HBL2 := Aside0.mk hbl2
  clear hb0 hbl1 hbx hS hS0 hbl2
  refine plan_pure _ rfl (fun w' => by go_simp; rfl) ?_
  simp only [planOps, List.getElem?_toArray, List.getElem?_cons_zero, List.getElem?_cons_succ, List.cons_append, List.nil_append, Act.put, List.setIfInBounds_toArray, List.set_cons_succ, List.set_cons_zero]
  refine plan_quiet _ rfl (fun w' hS => by have x0 := hb_cell hS 0; simp at x0; clear hS; go_simp; rfl) ?_
  simp only [planOps, List.getElem?_toArray, List.getElem?_cons_zero, List.getElem?_cons_succ, List.cons_append, List.nil_append, Act.put, List.setIfInBounds_toArray, List.set_cons_succ, List.set_cons_zero]
  refine plan_pure _ rfl (fun w' => by go_simp; rfl) ?_
  simp only [planOps, List.getElem?_toArray, List.getElem?_cons_zero, List.getElem?_cons_succ, List.cons_append, List.nil_append, Act.put, List.setIfInBounds_toArray, List.set_cons_succ, List.set_cons_zero]
  refine plan_quiet _ rfl (fun w' hS => by have x0 := hb_cell hS 1; simp at x0; clear hS; go_simp; rfl) ?_
  simp only [planOps, List.getElem?_toArray, List.getElem?_cons_zero, List.getElem?_cons_succ, List.cons_append, List.nil_append, Act.put, List.setIfInBounds_toArray, List.set_cons_succ, List.set_cons_zero]
  refine plan_call Try.func51 (by kernel_rfl) rfl #[.slice A0 l0.length c0] rfl rfl (by simp [Act.eval]) ?_
  refine (HH1.out _ HBL2.out).mono ?_
  rintro e w1 ⟨v0, rfl, ho0, hb1⟩
  refine ⟨v0, rfl, blk_below HS.out hb1, ?_⟩
  simp only [planOps, List.getElem?_toArray, List.getElem?_cons_zero, List.getElem?_cons_succ, List.cons_append, List.nil_append, Act.put, List.setIfInBounds_toArray, List.set_cons_succ, List.set_cons_zero]
  have HS1 := Aside0.mk (blk_below HS.out hb1)
  have HS01 := Aside0.mk (blk_below (show (World.drew _).heap[_]? = _ from HS0.out) hb1)
  have HBL3 := Aside0.mk (below_step HBL2.out hb1)
  have HO0 := Aside0.mk ho0
  clear ho0 hb1 HS HS0 HBL2
  refine plan_pure _ rfl (fun w' => by go_simp; rfl) ?_
  simp only [planOps, List.getElem?_toArray, List.getElem?_cons_zero, List.getElem?_cons_succ, List.cons_append, List.nil_append, Act.put, List.setIfInBounds_toArray, List.set_cons_succ, List.set_cons_zero]
  refine plan_call Try.func52 (by kernel_rfl) rfl #[.slice A1 l1.length c1] rfl rfl (by simp [Act.eval]) ?_
  refine (HH2.out _ HBL3.out).mono ?_
  rintro e w2 ⟨v1, rfl, ho1, hb2⟩
  refine ⟨v1, rfl, blk_below HS1.out hb2, ?_⟩
  simp only [planOps, List.getElem?_toArray, List.getElem?_cons_zero, List.getElem?_cons_succ, List.cons_append, List.nil_append, Act.put, List.setIfInBounds_toArray, List.set_cons_succ, List.set_cons_zero]
  have HS2 := Aside0.mk (blk_below HS1.out hb2)
  have HS02 := Aside0.mk (blk_below HS01.out hb2)
  have HBL4 := Aside0.mk (below_step HBL3.out hb2)
  have HO1 := Aside0.mk ho1
  have HO02 := Aside0.mk (pw_own_below HO0.out hb2)
  clear ho1 hb2 HS1 HS01 HO0
  obtain ⟨B0, k0, rfl⟩ := own_slice HO02.out
  obtain ⟨B1, k1, rfl⟩ := own_slice HO1.out
  have x0 := hb_free HS2.out 0
  have x1 := hb_cell HS2.out 0
  simp at x1
  refine plan_skip rfl rfl (by go_simp; rfl) ?_
  clear x0 x1
  have HS3 := Aside0.mk (show _ = some (Obj.cells #[.slice B0 l0.length k0, .slice A1 l1.length c1, .int .i64 cap] 30 (0, 0)) by simpa using hb_set HS2.out 0 (.slice B0 l0.length k0))
  refine plan_pure _ rfl (fun w' => by go_simp; rfl) ?_
  simp only [planOps, List.getElem?_toArray, List.getElem?_cons_zero, List.getElem?_cons_succ, List.cons_append, List.nil_append, Act.put, List.setIfInBounds_toArray, List.set_cons_succ, List.set_cons_zero]
  have x0 := hb_free HS3.out 1
  have x1 := hb_cell HS3.out 1
  simp at x1
  refine plan_skip rfl rfl (by go_simp; rfl) ?_
  clear x0 x1
  have HS4 := Aside0.mk (show _ = some (Obj.cells #[.slice B0 l0.length k0, .slice B1 ls1.length k1, .int .i64 cap] 30 (0, 0)) by simpa using hb_set HS3.out 1 (.slice B1 ls1.length k1))
  refine plan_nil ?_
  have h1 : host_Clone.L1 w (.slice B0 l0.length k0) (.slice B1 ls1.length k1) cap cs0 l0 ls1 0 ((w2.setCell ⟨w.heap.size, 0, none⟩ (.slice B0 l0.length k0)).setCell ⟨w.heap.size, 1, none⟩ (.slice B1 ls1.length k1)) := by
    have hne : w.heap.size + 1 ≠ w.heap.size := by omega
    have e0 : ∀ k, (Value.slice B0 l0.length k0).ownBlock = some k → k ≠ w.heap.size := fun k hk e => by
      obtain ⟨cs, hc⟩ := own_typed HO02.out k hk
      rw [e, HS2.out] at hc
      simp at hc
    have e1 : ∀ k, (Value.slice B1 ls1.length k1).ownBlock = some k → k ≠ w.heap.size := fun k hk e => by
      obtain ⟨cs, hc⟩ := own_typed HO1.out k hk
      rw [e, HS2.out] at hc
      simp at hc
    refine ⟨cs0, HS4.out, ?_, ?_, ?_, by simpa using Nest.nil _ _ _ _, fun _ _ => rfl, below_set (below_set HBL4.out (Nat.le_refl _)) (Nat.le_refl _)⟩
    · rw [hb_keep _ _ _ hne, hb_keep _ _ _ hne]
      have := HS02.out
      rwa [show (w.alloc (Obj.cells #[Value.slice A0 l0.length c0, Value.slice A1 l1.length c1, Value.int IntKind.i64 cap] 30)).heap.size = w.heap.size + 1 by simp] at this
    · exact own_move (own_move (own_less HO02.out (by simp; omega)) fun k hk => Below.heap_setCell _ _ _ _ (e0 k hk)) fun k hk => Below.heap_setCell _ _ _ _ (e0 k hk)
    · exact own_move (own_move (own_less HO1.out (by have := HBL3.out.size; omega)) fun k hk => Below.heap_setCell _ _ _ _ (e1 k hk)) fun k hk => Below.heap_setCell _ _ _ _ (e1 k hk)
  generalize (w2.setCell ⟨w.heap.size, 0, none⟩ (.slice B0 l0.length k0)).setCell ⟨w.heap.size, 1, none⟩ (.slice B1 ls1.length k1) = W at h1 HS4 ⊢
  have HL1 := Aside0.mk h1
  clear h1 HS2 HS02 HBL4 HO1 HO02 HS3 HBL3
  have x1 := hb_cell HS4.out 0
  simp at x1
  go_wp2
  go_loopw [18] (fun k wr => ∃ i : Nat, i ≤ l0.length ∧ k = .int .i64 i ∧ Aside0 (host_Clone.L1 w (.slice B0 l0.length k0) (.slice B1 ls1.length k1) cap cs0 l0 ls1 i wr)) (fun k _ => l0.length - (intOf k).toNat)
  case atStart => exact ⟨0, Nat.zero_le _, rfl, HL1⟩
  case round =>
    clear HS4 HL1 x1
    obtain ⟨i, hi, rfl, HI⟩ := hrel
    by_cases hlt : i < l0.length
    · obtain ⟨A, c, hcs, hcall⟩ := HK0.out i hlt
      have hi1 := HI.out
      obtain ⟨us, b1, b2, o0, o1, nst, tl, bel⟩ := hi1
      have hm := o0.2
      obtain ⟨g, cap', hv, hg1, hg2⟩ := o0.form (by omega)
      injection hv with e1 e2 e3
      subst e1 e3
      have hx := o0.cells (g := g) rfl i _ ((tl i (Nat.le_refl _)).trans hcs)
      rw [add_plain] at hx
      have HX := Aside0.mk hx
      have hy0 := hb_cell b1 0
      simp at hy0
      have HBX := Aside0.mk b1
      have HBE := Aside0.mk bel
      have HO := Aside0.mk o0
      have HCALL := Aside0.mk hcall
      have hmax : l0.length ≤ 9223372036854775807 := by
        rcases hm with ⟨_, h⟩ | ⟨_, cap2, _, he, _, _, h1, h2, _⟩
        · omega
        · unfold maxLen at h2; omega
      clear b1 b2 o0 o1 nst tl bel hm hcs hcall
      go_wp2
      refine plan_region [(0, .pure), (1, .quiet), (2, .pure), (3, .pure), (4, .loud), (5, .pure), (6, .last)] [6] (fun W => W.heap[w.heap.size]? = some (.cells #[.slice (some ⟨g, 0, none⟩) l0.length k0, .slice B1 ls1.length k1, .int .i64 cap] 30 (0, 0))) (by kernel_rfl) (by kernel_rfl) (by decide) (fun _ _ _ _ _ h => h) HBX.out ?_
      intro hS
      clear hS
      simp only [planOps, List.getElem?_toArray, List.getElem?_cons_zero, List.getElem?_cons_succ, List.cons_append, List.nil_append, Act.put, List.setIfInBounds_toArray, List.set_cons_succ, List.set_cons_zero]
      refine plan_pure _ rfl (fun w' => by go_simp; rfl) ?_
      simp only [planOps, List.getElem?_toArray, List.getElem?_cons_zero, List.getElem?_cons_succ, List.cons_append, List.nil_append, Act.put, List.setIfInBounds_toArray, List.set_cons_succ, List.set_cons_zero]
      refine plan_quiet _ rfl (fun w' hS => by have x0 := hb_cell hS 0; simp at x0; clear hS; go_simp; rfl) ?_
      simp only [planOps, List.getElem?_toArray, List.getElem?_cons_zero, List.getElem?_cons_succ, List.cons_append, List.nil_append, Act.put, List.setIfInBounds_toArray, List.set_cons_succ, List.set_cons_zero]
      refine plan_pure _ rfl (fun w' => by go_simp; rfl) ?_
      simp only [planOps, List.getElem?_toArray, List.getElem?_cons_zero, List.getElem?_cons_succ, List.cons_append, List.nil_append, Act.put, List.setIfInBounds_toArray, List.set_cons_succ, List.set_cons_zero]
      refine plan_pure _ rfl (fun w' => by go_simp; rfl) ?_
      simp only [planOps, List.getElem?_toArray, List.getElem?_cons_zero, List.getElem?_cons_succ, List.cons_append, List.nil_append, Act.put, List.setIfInBounds_toArray, List.set_cons_succ, List.set_cons_zero]
      refine plan_call Try.func37 (by kernel_rfl) rfl #[.slice A l0[i].length c] rfl rfl (by simp [Act.eval]) ?_
      refine (HCALL.out _ (below_drew HBE.out)).mono ?_
      rintro e w3 ⟨vi, rfl, hR, hb3⟩
      refine ⟨vi, rfl, blk_below (show (World.drew _).heap[_]? = _ from HBX.out) hb3, ?_⟩
      have hb3' : Below wr.heap.size wr w3 := undrew hb3
      have hst := host_Clone.step1 HI.out hlt hR hb3'
      have HST := Aside0.mk hst
      obtain ⟨Ai, ki, rfl⟩ := Kd.R_slice hR
      have hcell := (pw_cell_below hb3' HX.out)
      have hfr : w3.frozen? ⟨g, i, none⟩ = false := by
        obtain ⟨cells, hc⟩ := own_typed (pw_own_below HO.out hb3') g rfl
        exact hb_free hc i
      clear hst hR hb3 hb3'
      simp only [planOps, List.getElem?_toArray, List.getElem?_cons_zero, List.getElem?_cons_succ, List.cons_append, List.nil_append, Act.put, List.setIfInBounds_toArray, List.set_cons_succ, List.set_cons_zero]
      refine plan_pure (.pointer (some ⟨g, i, none⟩)) rfl (fun w' => by go_simp) ?_
      simp only [planOps, List.getElem?_toArray, List.getElem?_cons_zero, List.getElem?_cons_succ, List.cons_append, List.nil_append, Act.put, List.setIfInBounds_toArray, List.set_cons_succ, List.set_cons_zero]
      refine plan_skip rfl rfl (by go_simp; rfl) ?_
      refine plan_nil ?_
      go_wp2
      go_roundw
      case rel => exact ⟨i + 1, by omega, by go_num, HST⟩
      case measure => simp [intOf]; omega
    · obtain rfl : i = l0.length := by omega
      have h2 := host_Clone.two HI.out HL.out
      have hlen := HL.out
      have HI2 := Aside0.mk h2
      obtain ⟨us, ws, b1, b2, o0, o1, hw, nst, bel⟩ := h2
      have hy0 := hb_cell b1 1
      simp at hy0
      have hm := o1.2
      have hmax : l1.length ≤ 9223372036854775807 := by
        rcases hm with ⟨_, h⟩ | ⟨_, cap2, _, he, _, _, h1, h2, _⟩
        · omega
        · unfold maxLen at h2; omega
      rw [hlen] at *
      clear hm b1 b2 o0 o1 hw nst bel HI hlen
      go_wp2
      go_loopw [33] (fun k wr => ∃ i : Nat, i ≤ l1.length ∧ k = .int .i64 i ∧ Aside0 (host_Clone.L2 w (.slice B0 l0.length k0) (.slice B1 l1.length k1) cap l0 l1 ls1 i wr)) (fun k _ => l1.length - (intOf k).toNat)
      case atStart => exact ⟨0, Nat.zero_le _, rfl, HI2⟩
      case round =>
        clear HI2 hy0
        obtain ⟨i, hi, rfl, HI⟩ := hrel
        by_cases hlt : i < l1.length
        · obtain ⟨A, c, hcs, hcall⟩ := HK1.out i hlt
          have HCS := Aside0.mk hcs
          obtain ⟨us, ws, b1, b2, o0, o1, hw, nst, bel⟩ := HI.out
          obtain ⟨g, cap', hv, hg1, hg2⟩ := o1.form (by omega)
          injection hv with e1 e2 e3
          subst e1 e3
          have hcell3 : ∀ q u, ([Value.int .i64 l1[i].f0, .int .i64 l1[i].f1, .slice A l1[i].f2.length c] : List Value)[q]? = some u → wr.cell? ⟨g, i * 3 + q, none⟩ = some u := by
            intro q u hq
            have hql : q < 3 := by have := (List.getElem?_eq_some_iff.1 hq).1; simpa using this
            have hlt' : i < ls1.length := by rw [HL.out]; exact hlt
            have e3 : ls1.drop i = [.int .i64 l1[i].f0, .int .i64 l1[i].f1, .slice A l1[i].f2.length c] :: ls1.drop (i + 1) := by
              rw [List.drop_eq_getElem_cons hlt']
              congr 1
              exact Option.some.inj ((List.getElem?_eq_getElem hlt').symm.trans hcs)
            have e4 : (acells (l1.take i) ws).length = i * 3 := by rw [acells_length _ _ (by simp; omega), hw, Nat.mul_comm]
            have := o1.cells (g := g) rfl (i * 3 + q) u (by rw [List.getElem?_append_right (by omega), e4, Nat.add_sub_cancel_left, e3, List.flatten_cons, List.getElem?_append_left (by simpa using hql)]; exact hq)
            rwa [add_plain] at this
          have hx0 := hcell3 0 _ rfl
          have hx1 := hcell3 1 _ rfl
          have hx2 := hcell3 2 _ rfl
          rw [Nat.add_zero] at hx0
          have hxx := hx2
          have HX := Aside0.mk hxx
          have HBX := Aside0.mk b1
          have HBE := Aside0.mk bel
          have HO := Aside0.mk o1
          have HCALL := Aside0.mk hcall
          clear hxx b1 b2 o0 o1 hw nst bel hcs hcall hcell3
          go_wp2
          have hnb := hb_new wr #[.int .i64 l1[i].f0, .int .i64 l1[i].f1, .slice A l1[i].f2.length c] 55
          have hal := below_alloc (Below.refl wr.heap.size wr) (.cells #[.int .i64 l1[i].f0, .int .i64 l1[i].f1, .slice A l1[i].f2.length c] 55)
          have HBX1 := Aside0.mk (blk_below HBX.out hal)
          have HI1 := Aside0.mk (HI.out.below hal)
          have HX1 := Aside0.mk (pw_cell_below hal HX.out)
          have HO1 := Aside0.mk (pw_own_below HO.out hal)
          have HBE1 := Aside0.mk (below_step HBE.out hal)
          have HNB := Aside0.mk hnb
          clear hnb hal hx0 hx1 hx2
          refine plan_region [(0, .pure), (1, .quiet), (2, .pure), (3, .pure), (4, .quiet), (5, .loud), (6, .pure), (7, .pure), (8, .last)] [8] (fun W => W.heap[w.heap.size]? = some (.cells #[.slice B0 l0.length k0, .slice (some ⟨g, 0, none⟩) l1.length k1, .int .i64 cap] 30 (0, 0)) ∧ W.heap[wr.heap.size]? = some (.cells #[.int .i64 l1[i].f0, .int .i64 l1[i].f1, .slice A l1[i].f2.length c] 55 (0, 0))) (by kernel_rfl) (by kernel_rfl) (by decide) (fun _ _ _ _ _ h => h) ⟨HBX1.out, HNB.out⟩ ?_
          intro hS
          clear hS
          simp only [planOps, List.getElem?_toArray, List.getElem?_cons_zero, List.getElem?_cons_succ, List.cons_append, List.nil_append, Act.put, List.setIfInBounds_toArray, List.set_cons_succ, List.set_cons_zero]
          refine plan_pure _ rfl (fun w' => by go_simp; rfl) ?_
          simp only [planOps, List.getElem?_toArray, List.getElem?_cons_zero, List.getElem?_cons_succ, List.cons_append, List.nil_append, Act.put, List.setIfInBounds_toArray, List.set_cons_succ, List.set_cons_zero]
          refine plan_quiet _ rfl (fun w' hS => by have x0 := hb_cell hS.1 1; simp at x0; clear hS; go_simp; rfl) ?_
          simp only [planOps, List.getElem?_toArray, List.getElem?_cons_zero, List.getElem?_cons_succ, List.cons_append, List.nil_append, Act.put, List.setIfInBounds_toArray, List.set_cons_succ, List.set_cons_zero]
          refine plan_pure _ rfl (fun w' => by go_simp; rfl) ?_
          simp only [planOps, List.getElem?_toArray, List.getElem?_cons_zero, List.getElem?_cons_succ, List.cons_append, List.nil_append, Act.put, List.setIfInBounds_toArray, List.set_cons_succ, List.set_cons_zero]
          refine plan_pure _ rfl (fun w' => by go_simp; rfl) ?_
          simp only [planOps, List.getElem?_toArray, List.getElem?_cons_zero, List.getElem?_cons_succ, List.cons_append, List.nil_append, Act.put, List.setIfInBounds_toArray, List.set_cons_succ, List.set_cons_zero]
          refine plan_quiet _ rfl (fun w' hS => by have x0 := hb_cell hS.2 2; simp at x0; clear hS; go_simp; rfl) ?_
          simp only [planOps, List.getElem?_toArray, List.getElem?_cons_zero, List.getElem?_cons_succ, List.cons_append, List.nil_append, Act.put, List.setIfInBounds_toArray, List.set_cons_succ, List.set_cons_zero]
          refine plan_call Try.func37 (by kernel_rfl) rfl #[.slice A l1[i].f2.length c] rfl rfl (by simp [Act.eval]) ?_
          refine (HCALL.out _ (below_drew HBE1.out)).mono ?_
          rintro e w3 ⟨vi, rfl, hR, hb3⟩
          have hb3' := undrew hb3
          refine ⟨vi, rfl, ⟨blk_below HBX1.out hb3', blk_below HNB.out hb3'⟩, ?_⟩
          have hst := host_Clone.step2 HI1.out hlt HL.out HCS.out hR hb3'
          have HST := Aside0.mk hst
          obtain ⟨Ai, ki, rfl⟩ := Kd.R_slice hR
          have hcell := (pw_cell_below hb3' HX1.out)
          have hfr : w3.frozen? ⟨g, i * 3 + 2, none⟩ = false := by
            obtain ⟨cells, hc⟩ := own_typed (pw_own_below HO1.out hb3') g rfl
            exact hb_free hc _
          clear hst hR hb3 hb3'
          simp only [planOps, List.getElem?_toArray, List.getElem?_cons_zero, List.getElem?_cons_succ, List.cons_append, List.nil_append, Act.put, List.setIfInBounds_toArray, List.set_cons_succ, List.set_cons_zero]
          refine plan_pure (.pointer (some ⟨g, i * 3, none⟩)) rfl (fun w' => by go_simp) ?_
          simp only [planOps, List.getElem?_toArray, List.getElem?_cons_zero, List.getElem?_cons_succ, List.cons_append, List.nil_append, Act.put, List.setIfInBounds_toArray, List.set_cons_succ, List.set_cons_zero]
          refine plan_pure (.pointer (some ⟨g, i * 3 + 2, none⟩)) rfl (fun w' => by go_simp) ?_
          simp only [planOps, List.getElem?_toArray, List.getElem?_cons_zero, List.getElem?_cons_succ, List.cons_append, List.nil_append, Act.put, List.setIfInBounds_toArray, List.set_cons_succ, List.set_cons_zero]
          refine plan_skip rfl rfl (by go_simp; rfl) ?_
          refine plan_nil ?_
          go_wp2
          go_roundw
          case rel => exact ⟨i + 1, by omega, by go_num, HST⟩
          case measure => simp [intOf]; omega
        · obtain rfl : i = l1.length := by omega
          obtain ⟨us, ws, b1, b2, o0, o1, hw, nst, bel⟩ := HI.out
          have z0 := hb_cell b1 0
          have z1 := hb_cell b1 1
          have z2 := hb_cell b1 2
          have y0 := hb_cell b2 0
          have y1 := hb_cell b2 1
          have y2 := hb_cell b2 2
          have f0 := hb_free b2 0
          have f1 := hb_free b2 1
          have f2 := hb_free b2 2
          simp at z0 z1 z2 y0 y1 y2
          clear b1 b2 o0 o1 hw nst bel
          go_wp2
          obtain ⟨q0, us, ws, q1, q2, q3, q4⟩ := host_Clone.fin HI.out HL.out (.slice B0 l0.length k0) (.slice B1 l1.length k1) (.int .i64 cap)
          refine bodyPost_ret (v := .agg #[.slice B0 l0.length k0, .slice B1 l1.length k1, .int .i64 cap]) ?_ rfl ⟨_, _, us, ws, rfl, q1, q2, q3, q4⟩
          have r0 := hb_cell q0 0
          have r1 := hb_cell q0 1
          have r2 := hb_cell q0 2
          simp only [List.getElem?_toArray, List.getElem?_cons_zero, List.getElem?_cons_succ] at r0 r1 r2
          clear q1 q2 q3 q4 z0 z1 z2 y0 y1 y2 f0 f1 f2 q0
          generalize World.setCell (World.setCell (World.setCell wr _ _) _ _) _ _ = W3 at r0 r1 r2 ⊢
          simp [results, Try.results40, go_sem, r0, r1, r2]
set_option maxRecDepth 100000 in
theorem host_Clone.strong (A0 : Option Addr) (c0 : Nat) (l0 : List (List Int)) (A1 : Option Addr) (c1 : Nat) (l1 : List S55) (cap : Int) (w : World) (hr0 : Kd.C (Kd.slice 5 (Kd.int .u8)) w A0 l0.length l0) (hr1 : Kd.C k55 w A1 l1.length l1)
    (hg0 : l0.length * 24 ≤ 140737488355328) (hg1 : l1.length * 40 ≤ 140737488355328) (hs0 : ∀ x ∈ l0, x.length < 140737488355328) (hs1 : ∀ a ∈ l1, a.f2.length < 140737488355328) :
    Calls Try.prog 40 #[.agg #[.slice A0 l0.length c0, .slice A1 l1.length c1, .int .i64 cap]] w fun e w' => ∃ v0 v1 us ws, e = .returned (.agg #[v0, v1, .int .i64 cap]) ∧
      w'.ownsRow w.heap.size 26 1 v0 l0.length us ∧ w'.ownsRow w.heap.size 55 3 v1 l1.length (acells l1 ws) ∧ Nest (Kd.int .u8) 5 w' w.heap.size (us ++ ws) (l0 ++ l1.map (·.f2)) ∧ Below w.heap.size w w' := by
  obtain ⟨ls0, hl0, hC0, hK0⟩ := C_raw hr0
  obtain ⟨ls1, hl1, hC1, hK1⟩ := C_raw hr1
  have hone : ∀ i (h : i < l0.length), ∃ A c, ls0[i]? = some [.slice A l0[i].length c] ∧ l0[i].length ≤ c ∧ Kd.C (Kd.int .u8) w A l0[i].length l0[i] := by
    intro i h
    obtain ⟨cs, hcs, _, A, c, rfl, hle, hC⟩ := hK0 i _ (List.getElem?_eq_getElem h)
    exact ⟨A, c, hcs, hle, hC⟩
  have hflat : ∀ i (h : i < l0.length), ls0.flatten[i]? = ls0[i]?.bind List.head? := by
    have key : ∀ (ls : List (List Value)), (∀ (cs : List Value), cs ∈ ls → cs.length = 1) → ∀ i : Nat, ls.flatten[i]? = ls[i]?.bind List.head? := by
      intro ls
      induction ls with
      | nil => intro _ i; simp
      | cons cs ls ih =>
        intro h i
        have h1 := h cs List.mem_cons_self
        obtain ⟨x, rfl⟩ : ∃ x, cs = [x] := List.length_eq_one_iff.1 h1
        cases i with
        | zero => simp
        | succ i => simpa using ih (fun c hc => h c (List.mem_cons_of_mem _ hc)) i
    intro i _
    refine key ls0 (fun cs hm => ?_) i
    obtain ⟨j, hj⟩ := List.mem_iff_getElem?.1 hm
    have hjl : j < l0.length := by rw [← hl0]; exact (List.getElem?_eq_some_iff.1 hj).1
    obtain ⟨A, c, h2, _⟩ := hone j hjl
    rw [hj] at h2
    rw [Option.some.inj h2]
    rfl
  refine host_Clone.walk A0 c0 l0 A1 c1 l1 cap w ls0.flatten ls1 hl1 (fun W hW => ?_) (fun W hW => ?_) (fun i h => ?_) (fun i h => ?_)
  · have := slices_Clone_bb.shallow A0 c0 ls0 W (by rw [hl0]; exact Kd.C_below hC0 hW) (by rw [hl0]; exact hg0)
    rwa [hl0] at this
  · have := slices_Clone_act.shallow A1 c1 ls1 W (by rw [hl1]; exact Kd.C_below hC1 hW) (by rw [hl1]; exact hg1)
    rwa [hl1] at this ⊢
  · obtain ⟨A, c, h2, hle, hC⟩ := hone i h
    refine ⟨A, c, by rw [hflat i h, h2]; rfl, fun W hW => ?_⟩
    exact slices_Clone_byte_byte.calls A c _ _ W (Kd.C_below hC hW) hle (by unfold slices_Clone_byte_byte.f; rw [if_pos (hs0 _ (List.getElem_mem h))])
  · obtain ⟨cs, hcs, _, hK⟩ := hK1 i _ (List.getElem?_eq_getElem h)
    obtain ⟨A, c, rfl, hle, hC⟩ := k55_open hK
    refine ⟨A, c, hcs, fun W hW => ?_⟩
    exact slices_Clone_byte_byte.calls A c _ _ W (Kd.C_below hC hW) hle (by unfold slices_Clone_byte_byte.f; rw [if_pos (hs1 _ (List.getElem_mem h))])
theorem acells_at : ∀ (as_ : List S55) (vs : List Value) (j : Nat) (a : S55) (v : Value), as_[j]? = some a → vs[j]? = some v → ((acells as_ vs).drop (j * 3)).take 3 = [.int .i64 a.f0, .int .i64 a.f1, v]
  | b :: as_, u :: vs, 0, a, v, ha, hv => by
    simp at ha hv
    subst ha hv
    rfl
  | b :: as_, u :: vs, j + 1, a, v, ha, hv => by
    have := acells_at as_ vs j a v (by simpa using ha) (by simpa using hv)
    rw [show (j + 1) * 3 = j * 3 + 3 by omega]
    simpa [acells] using this
/-- A row of acts, as the print tells it. -/
theorem acts_S {w : World} {base : Nat} {v : Value} {l : List S55} {ws : List Value} (ho : w.ownsRow base 55 3 v l.length (acells l ws)) (h : Nest (Kd.int .u8) 5 w base ws (l.map (·.f2))) : Kd.S k55 55 w base (fun _ => True) v l := by
  have hlen : ws.length = l.length := by rw [h.len]; simp
  have hty := own_typed ho
  obtain ⟨f, hf⟩ := Kd.reps_tag (d := k55) (w := w) (base := base) (ok := fun k => True ∧ some k ≠ v.ownBlock) (xs := l) (inner := acells l ws)
    (fun j k => ∃ u, ws[j]? = some u ∧ some k = u.ownBlock) (fun i j k ⟨u, hu, hk⟩ ⟨u', hu', hk'⟩ => h.apart i j u u' k hu hu' hk.symm hk'.symm)
    (fun j k ⟨u, hu, hk⟩ => ⟨trivial, fun hv => by
      obtain ⟨cs, hc⟩ := hty k hv.symm
      exact h.typed hc (by decide) (List.mem_of_getElem? hu) hk.symm rfl⟩)
    (by rw [acells_length _ _ hlen.symm, hlen, Nat.mul_comm]; rfl) (fun j x hj => by
      have hl : j < ws.length := by rw [hlen]; exact (List.getElem?_eq_some_iff.1 hj).1
      have hv : ws[j]? = some ws[j] := List.getElem?_eq_getElem hl
      have e1 : ((acells l ws).drop (j * k55.sz)).take k55.sz = [.int .i64 x.f0, .int .i64 x.f1, ws[j]] := acells_at l ws j x _ hj hv
      rw [e1]
      exact k55_mkM _ _ _ x (Kd.R_mono (h.row j _ x.f2 hv (by rw [List.getElem?_map, hj]; rfl)) (fun k hk => ⟨_, hv, hk⟩)))
  exact ⟨f, fun _ _ => trivial, acells l ws, by rw [List.length_zipIdx]; exact ho, hf⟩
def host_Clone.fit (l0_0 : List (List Int)) (l0_1 : List S55) : Prop := l0_0.length * 24 ≤ 140737488355328 ∧ l0_1.length * 40 ≤ 140737488355328 ∧ (∀ x ∈ l0_0, x.length < 140737488355328) ∧ (∀ a ∈ l0_1, a.f2.length < 140737488355328)
instance (a : List (List Int)) (b : List S55) : Decidable (host_Clone.fit a b) := by unfold host_Clone.fit; infer_instance
def host_Clone.f (l0_0 : List (List Int)) (l0_1 : List S55) (a0_2 : Int) : Option ((List (List Int)) × (List (S55)) × Int) := if host_Clone.fit l0_0 l0_1 then some (l0_0, l0_1, a0_2) else none
theorem host_Clone.calls (A0_0 : Option Addr) (c0_0 : Nat) (l0_0 : List (List Int)) (A0_1 : Option Addr) (c0_1 : Nat) (l0_1 : List (S55)) (a0_2 : Int) (r1 : List (List Int)) (r2 : List (S55)) (r3 : Int) (w : World) (hr0_0 : Kd.C (Kd.slice 5 (Kd.int .u8)) w A0_0 l0_0.length l0_0) (hc0_0 : l0_0.length ≤ c0_0) (hr0_1 : Kd.C k55 w A0_1 l0_1.length l0_1) (hc0_1 : l0_1.length ≤ c0_1) (h : host_Clone.f l0_0 l0_1 a0_2 = some (r1, r2, r3)) :
    Calls Try.prog 40 #[.agg #[.slice A0_0 l0_0.length c0_0, .slice A0_1 l0_1.length c0_1, .int .i64 a0_2]] w fun e w' => ∃ v0_ v1_ : Value, e = .returned (.agg #[v0_, v1_, .int .i64 r3]) ∧ Kd.S (Kd.slice 5 (Kd.int .u8)) 26 w' w.heap.size (fun _ => True) v0_ r1 ∧ Kd.S k55 55 w' w.heap.size (fun _ => True) v1_ r2 ∧ Below w.heap.size w w' := by
  unfold host_Clone.f at h
  split at h
  case isFalse => cases h
  rename_i hg
  have h := Option.some.inj h
  simp only [Prod.mk.injEq] at h
  obtain ⟨rfl, rfl, rfl⟩ := h
  refine (host_Clone.strong A0_0 c0_0 l0_0 A0_1 c0_1 l0_1 a0_2 w hr0_0 hr0_1 hg.1 hg.2.1 hg.2.2.1 hg.2.2.2).mono ?_
  rintro e w' ⟨v0, v1, us, ws, rfl, h0, h1, hn, hb⟩
  have hl : us.length = l0_0.length := by have := h0.1; omega
  exact ⟨v0, v1, rfl, Nest.asS (hn.left hl) rfl (by rw [hl]; exact h0) (by decide), acts_S h1 (hn.right hl), hb⟩

def zeros64 : List Int := List.replicate 64 0
/-- Sectors behind an act. -/
def host_Crash.doS (ss : List (List Int)) (a : S55) : List (List Int) :=
  if a.f0 = 2 then ss.take a.f1.toNat ++ List.replicate (a.f1.toNat - ss.length) zeros64 else if a.f1 < (ss.length : Int) then ss.set a.f1.toNat a.f2 else ss
/-- What is told of sectors on their way: the state's block, the sectors' cells, and what waits. -/
def host_Crash.Own (w : World) (g : Nat) (v0 v1 : Value) (cap : Int) (us rest : List Value) (ss xs : List (List Int)) (W : World) : Prop :=
  W.heap[g]? = some (.cells #[v0, v1, .int .i64 cap] 30 (0, 0)) ∧ W.ownsRow w.heap.size 26 1 v0 ss.length us ∧ Nest (Kd.int .u8) 5 W w.heap.size (us ++ rest) (ss ++ xs) ∧ Below w.heap.size w W ∧ w.heap.size ≤ g
/-- All but the state's block and the sectors' is as it was. -/
def host_Crash.Same (g : Nat) (v0 : Value) (W W1 : World) : Prop := W.heap.size ≤ W1.heap.size ∧ ∀ k, k < W.heap.size → k ≠ g → v0.ownBlock ≠ some k → W1.heap[k]? = W.heap[k]?
theorem host_Crash.Own.slice {w W : World} {g : Nat} {v0 v1 : Value} {cap : Int} {us rest : List Value} {ss xs : List (List Int)} {d : Value} {x : List Int} (h : host_Crash.Own w g v0 v1 cap us (d :: rest) ss (x :: xs) W) : ∃ A c, d = .slice A x.length c := by
  have := h.2.2.1.row us.length d x (by simp) (by
    have := h.2.2.1.len
    have h2 := h.2.1.1
    rw [List.getElem?_append_right (by omega)]
    simp [h2])
  exact Kd.R_slice this
theorem host_Crash.Own.max {w W : World} {g : Nat} {v0 v1 : Value} {cap : Int} {us rest : List Value} {ss xs : List (List Int)} (h : host_Crash.Own w g v0 v1 cap us rest ss xs W) : us.length = ss.length ∧ ss.length ≤ 9223372036854775807 := by
  refine ⟨by have := h.2.1.1; omega, ?_⟩
  rcases h.2.1.2 with ⟨_, h⟩ | ⟨_, cap2, _, he, _, _, h1, h2, _⟩
  · omega
  · unfold maxLen at h2; omega
theorem host_Crash.Own.below {w W W1 : World} {g : Nat} {v0 v1 : Value} {cap : Int} {us rest : List Value} {ss xs : List (List Int)} (h : host_Crash.Own w g v0 v1 cap us rest ss xs W) (hb : Below W.heap.size W W1) : host_Crash.Own w g v0 v1 cap us rest ss xs W1 :=
  ⟨blk_below h.1 hb, pw_own_below h.2.1 hb, h.2.2.1.below hb, below_step h.2.2.2.1 hb, h.2.2.2.2⟩
theorem host_Crash.Same.refl (g : Nat) (v0 : Value) (W : World) : host_Crash.Same g v0 W W := ⟨Nat.le_refl _, fun _ _ _ _ => rfl⟩
theorem host_Crash.Same.below {g : Nat} {v0 : Value} {W W1 W2 : World} (h : host_Crash.Same g v0 W W1) (hb : Below W1.heap.size W1 W2) : host_Crash.Same g v0 W W2 := ⟨Nat.le_trans h.1 hb.size, fun k hk h1 h2 => (hb.block k (Nat.lt_of_lt_of_le hk h.1)).trans (h.2 k hk h1 h2)⟩
theorem host_Crash.Same.set {g : Nat} {v0 : Value} {W W1 : World} (h : host_Crash.Same g v0 W W1) {p : Addr} (hp : p.block = g ∨ v0.ownBlock = some p.block ∨ W.heap.size ≤ p.block) (u : Value) : host_Crash.Same g v0 W (W1.setCell p u) :=
  ⟨by simp [World.setCell]; exact h.1, fun k hk h1 h2 => (Below.heap_setCell _ _ _ _ (by
    rintro rfl
    rcases hp with hp | hp | hp
    · exact h1 hp
    · exact h2 hp
    · omega)).trans (h.2 k hk h1 h2)⟩
theorem host_Crash.Same.grown {g : Nat} {v0 v : Value} {W W1 W2 : World} (h : host_Crash.Same g v0 W W1) (hg : W1.grownBy W2 v.ownBlock) (hv : v.ownBlock = v0.ownBlock ∨ ∃ b, v.ownBlock = some b ∧ W.heap.size ≤ b) : host_Crash.Same g v0 W W2 :=
  ⟨Nat.le_trans h.1 hg.size, fun k hk h1 h2 => (hg.block k (Nat.lt_of_lt_of_le hk h.1) (fun e => by
    rcases hv with hv | ⟨b, hv, hb⟩
    · exact h2 (hv ▸ e.symm)
    · rw [hv] at e
      injection e with e
      omega)).trans (h.2 k hk h1 h2)⟩
theorem host_Crash.Same.trans {g : Nat} {v0 v : Value} {W W1 W2 : World} (h : host_Crash.Same g v0 W W1) (h' : host_Crash.Same g v W1 W2) (hv : v.ownBlock = v0.ownBlock ∨ ∃ b, v.ownBlock = some b ∧ W.heap.size ≤ b) : host_Crash.Same g v0 W W2 :=
  ⟨Nat.le_trans h.1 h'.1, fun k hk h1 h2 => (h'.2 k (Nat.lt_of_lt_of_le hk h.1) h1 (fun e => by
    rcases hv with hv | ⟨b, hv, hb⟩
    · exact h2 (hv ▸ e)
    · rw [hv] at e
      injection e with e
      omega)).trans (h.2 k hk h1 h2)⟩
/-- What 'do' leaves. -/
def host_Crash.Done (w : World) (g : Nat) (v0 v1 : Value) (cap : Int) (rest : List Value) (ss xs : List (List Int)) (W W' : World) : Prop :=
  ∃ B k us, host_Crash.Own w g (.slice B ss.length k) v1 cap us rest ss xs W' ∧ host_Crash.Same g v0 W W' ∧ ((Value.slice B ss.length k).ownBlock = v0.ownBlock ∨ ∃ b, (Value.slice B ss.length k).ownBlock = some b ∧ W.heap.size ≤ b)
set_option maxRecDepth 100000 in
theorem host_Crash.do_none (w W : World) (g : Nat) (v1 : Value) (cap : Int) (us : List Value) (ss : List (List Int)) (a : S55) (d : Value) (rest : List Value) (xs : List (List Int)) (B : Option Addr) (k : Nat)
    (h : host_Crash.Own w g (.slice B ss.length k) v1 cap us (d :: rest) ss (a.f2 :: xs) W) (h0 : a.f0 ≠ 2) (h1 : ¬ a.f1 < (ss.length : Int)) :
    Calls Try.prog 41 #[.pointer (some ⟨g, 0, none⟩), .agg #[.int .i64 a.f0, .int .i64 a.f1, d]] W fun e w' => e = .returned (.tuple #[]) ∧ host_Crash.Done w g (.slice B ss.length k) v1 cap rest ss xs W w' := by
  obtain ⟨A, c, rfl⟩ := h.slice
  have hn := h.max.2
  have hul := h.max.1
  have hfin : ∀ W1, Below W.heap.size W W1 → host_Crash.Done w g (.slice B ss.length k) v1 cap rest ss xs W W1 := fun W1 hb => by
    have h2 := h.below hb
    exact ⟨B, k, us, ⟨h2.1, h2.2.1, h2.2.2.1.skip hul, h2.2.2.2.1, h2.2.2.2.2⟩, (host_Crash.Same.refl _ _ _).below hb, .inl rfl⟩
  have HFIN := Aside0.mk hfin
  have hgl := blk_lt h.1
  have hx0 : ∀ o, (W.alloc o).cell? ⟨g, 0, none⟩ = some (.slice B ss.length k) := fun o => (World.cell?_alloc_lt _ _ _ hgl).trans ((hb_cell h.1 0).trans rfl)
  have HBX := Aside0.mk h.1
  have hq0 : (a.f0 == 2) = false := beq_eq_false_iff_ne.2 h0
  have hq1 : decide (a.f1 < (ss.length : Int)) = false := decide_eq_false h1
  have HB := Aside0.mk (below_alloc (Below.refl W.heap.size W) (.cells #[.int .i64 a.f0, .int .i64 a.f1, .slice A a.f2.length c] 55))
  have HNB := Aside0.mk (hb_new W #[.int .i64 a.f0, .int .i64 a.f1, .slice A a.f2.length c] 55)
  clear h h0 h1 hfin
  go_enter Try.func41, Try.ntmps41
  go_wp2
  refine plan_region [(0, .pure), (1, .quiet), (2, .pure), (3, .pure), (4, .pure), (5, .quiet), (6, .pure), (7, .pure), (8, .pure)] [] (fun W1 => W1.heap[g]? = some (.cells #[.slice B ss.length k, v1, .int .i64 cap] 30 (0, 0)) ∧ W1.heap[W.heap.size]? = some (.cells #[.int .i64 a.f0, .int .i64 a.f1, .slice A a.f2.length c] 55 (0, 0))) (by kernel_rfl) (by kernel_rfl) (by decide) (fun _ _ _ _ _ h => h) ⟨(Below.heap_alloc _ _ _ hgl).trans HBX.out, HNB.out⟩ ?_
  intro hS
  clear hS
  simp only [planOps, List.getElem?_toArray, List.getElem?_cons_zero, List.getElem?_cons_succ, List.cons_append, List.nil_append, Act.put, List.setIfInBounds_toArray, List.set_cons_succ, List.set_cons_zero]
  refine plan_pure _ rfl (fun w' => by go_simp; rfl) ?_
  simp only [planOps, List.getElem?_toArray, List.getElem?_cons_zero, List.getElem?_cons_succ, List.cons_append, List.nil_append, Act.put, List.setIfInBounds_toArray, List.set_cons_succ, List.set_cons_zero]
  refine plan_quiet _ rfl (fun w' hS => by have x0 := hb_cell (hS.2) 1; simp at x0; clear hS; go_simp; rfl) ?_
  simp only [planOps, List.getElem?_toArray, List.getElem?_cons_zero, List.getElem?_cons_succ, List.cons_append, List.nil_append, Act.put, List.setIfInBounds_toArray, List.set_cons_succ, List.set_cons_zero]
  refine plan_pure _ rfl (fun w' => by go_simp; rfl) ?_
  simp only [planOps, List.getElem?_toArray, List.getElem?_cons_zero, List.getElem?_cons_succ, List.cons_append, List.nil_append, Act.put, List.setIfInBounds_toArray, List.set_cons_succ, List.set_cons_zero]
  refine plan_pure _ rfl (fun w' => by go_simp; rfl) ?_
  simp only [planOps, List.getElem?_toArray, List.getElem?_cons_zero, List.getElem?_cons_succ, List.cons_append, List.nil_append, Act.put, List.setIfInBounds_toArray, List.set_cons_succ, List.set_cons_zero]
  refine plan_pure _ rfl (fun w' => by go_simp; rfl) ?_
  simp only [planOps, List.getElem?_toArray, List.getElem?_cons_zero, List.getElem?_cons_succ, List.cons_append, List.nil_append, Act.put, List.setIfInBounds_toArray, List.set_cons_succ, List.set_cons_zero]
  refine plan_quiet _ rfl (fun w' hS => by have x0 := hb_cell (hS.1) 0; simp at x0; clear hS; go_simp; rfl) ?_
  simp only [planOps, List.getElem?_toArray, List.getElem?_cons_zero, List.getElem?_cons_succ, List.cons_append, List.nil_append, Act.put, List.setIfInBounds_toArray, List.set_cons_succ, List.set_cons_zero]
  refine plan_pure _ rfl (fun w' => by go_simp; rfl) ?_
  simp only [planOps, List.getElem?_toArray, List.getElem?_cons_zero, List.getElem?_cons_succ, List.cons_append, List.nil_append, Act.put, List.setIfInBounds_toArray, List.set_cons_succ, List.set_cons_zero]
  refine plan_pure _ rfl (fun w' => by go_simp; rfl) ?_
  simp only [planOps, List.getElem?_toArray, List.getElem?_cons_zero, List.getElem?_cons_succ, List.cons_append, List.nil_append, Act.put, List.setIfInBounds_toArray, List.set_cons_succ, List.set_cons_zero]
  refine plan_pure _ rfl (fun w' => by go_simp; rfl) ?_
  simp only [planOps, List.getElem?_toArray, List.getElem?_cons_zero, List.getElem?_cons_succ, List.cons_append, List.nil_append, Act.put, List.setIfInBounds_toArray, List.set_cons_succ, List.set_cons_zero]
  refine plan_nil ?_
  go_wp2
  go_end0
  exact ⟨rfl, HFIN.out _ (below_drew HB.out)⟩
theorem host_Crash.put {w W W1 : World} {g k g1 : Nat} {v1 : Value} {cap : Int} {us rest : List Value} {ss xs : List (List Int)} {d : Value} {x : List Int} (h : host_Crash.Own w g (.slice (some ⟨g1, 0, none⟩) ss.length k) v1 cap us (d :: rest) ss (x :: xs) W) (hb : Below W.heap.size W W1) (i : Nat) :
    host_Crash.Done w g (.slice (some ⟨g1, 0, none⟩) ss.length k) v1 cap rest (ss.set i x) xs W (W1.setCell ⟨g1, i, none⟩ d) := by
  have hul := h.max.1
  obtain ⟨b1, o0, nst, bel, hg⟩ := h.below hb
  obtain ⟨cells, hc⟩ := own_typed o0 g1 rfl
  have hgg : w.heap.size ≤ g1 := own_base o0 g1 rfl
  have hst := (o0.stored i d).1
  have hl : (ss.set i x).length = ss.length := List.length_set
  refine ⟨some ⟨g1, 0, none⟩, k, us.set i d, ⟨?_, ?_, (nst.swap hul rfl i).set hc (by decide) i d, below_set bel hgg, hg⟩, ((host_Crash.Same.refl _ _ _).below hb).set (.inr (.inl rfl)) d, .inl rfl⟩
  · rw [Below.heap_setCell]
    · rw [hl]; exact b1
    · rintro rfl
      rw [b1] at hc
      simp at hc
  · rw [hl]; exact hst
set_option maxRecDepth 100000 in
theorem host_Crash.do_put (w W : World) (g : Nat) (v1 : Value) (cap : Int) (us : List Value) (ss : List (List Int)) (a : S55) (d : Value) (rest : List Value) (xs : List (List Int)) (B : Option Addr) (k : Nat)
    (h : host_Crash.Own w g (.slice B ss.length k) v1 cap us (d :: rest) ss (a.f2 :: xs) W) (h0 : a.f0 ≠ 2) (h1 : a.f1 < (ss.length : Int)) (hp : 0 ≤ a.f1) :
    Calls Try.prog 41 #[.pointer (some ⟨g, 0, none⟩), .agg #[.int .i64 a.f0, .int .i64 a.f1, d]] W fun e w' => e = .returned (.tuple #[]) ∧ host_Crash.Done w g (.slice B ss.length k) v1 cap rest (ss.set a.f1.toNat a.f2) xs W w' := by
  obtain ⟨A, c, rfl⟩ := h.slice
  have hn := h.max.2
  have hul := h.max.1
  obtain ⟨g1, cap', hv, hg1, hg2⟩ := h.2.1.form (by omega)
  injection hv with e1 e2 e3
  subst e1 e3
  obtain ⟨y0, y1, y2⟩ := a
  simp only at h h0 h1 hp ⊢
  obtain ⟨i, rfl⟩ := Pl.nat_of hp
  have hi : i < ss.length := by omega
  have hfin : ∀ W1, Below W.heap.size W W1 → host_Crash.Done w g (.slice (some ⟨g1, 0, none⟩) ss.length k) v1 cap rest (ss.set i y2) xs W (W1.setCell ⟨g1, i, none⟩ (.slice A y2.length c)) := fun W1 hb => host_Crash.put h hb i
  have HFIN := Aside0.mk hfin
  have hgl := blk_lt h.1
  have hx0 : ∀ o, (W.alloc o).cell? ⟨g, 0, none⟩ = some (.slice (some ⟨g1, 0, none⟩) ss.length k) := fun o => (World.cell?_alloc_lt _ _ _ hgl).trans ((hb_cell h.1 0).trans rfl)
  have hc0 : ∃ u cells, us[i]? = some u ∧ W.heap[g1]? = some (.cells cells 26 (0, 0)) ∧ W.cell? ⟨g1, i, none⟩ = some u := by
    obtain ⟨cells, hc⟩ := own_typed h.2.1 g1 rfl
    have hu := List.getElem?_eq_getElem (show i < us.length by omega)
    have := h.2.1.cells (g := g1) rfl i _ hu
    rw [add_plain] at this
    exact ⟨_, cells, hu, hc, this⟩
  obtain ⟨u, cells, _, hc, hu⟩ := hc0
  have HC := Aside0.mk hc
  have HU := Aside0.mk hu
  have HBX := Aside0.mk h.1
  have hq0 : (y0 == 2) = false := beq_eq_false_iff_ne.2 h0
  have hq1 : decide (i < ss.length) = true := decide_eq_true hi
  have HB := Aside0.mk (below_alloc (Below.refl W.heap.size W) (.cells #[.int .i64 y0, .int .i64 (i : Int), .slice A y2.length c] 55))
  have HNB := Aside0.mk (hb_new W #[.int .i64 y0, .int .i64 (i : Int), .slice A y2.length c] 55)
  rw [Int.toNat_natCast]
  clear h h0 h1 hp hfin hc hu
  go_enter Try.func41, Try.ntmps41
  go_wp2
  refine plan_regionW [(0, .pure), (1, .quiet), (2, .pure), (3, .pure), (4, .pure), (5, .quiet), (6, .pure), (7, .pure), (8, .pure)] [] (fun W1 => W1.heap[g]? = some (.cells #[.slice (some ⟨g1, 0, none⟩) ss.length k, v1, .int .i64 cap] 30 (0, 0)) ∧ W1.heap[W.heap.size]? = some (.cells #[.int .i64 y0, .int .i64 (i : Int), .slice A y2.length c] 55 (0, 0))) (by kernel_rfl) (by kernel_rfl) (by decide) (fun _ _ _ _ _ h => h) (fun w_ hb_ => ⟨blk_below ((Below.heap_alloc _ _ _ hgl).trans HBX.out) hb_, blk_below HNB.out hb_⟩) ?_
  intro W1 hbW1 hSW1
  simp only [planOps, List.getElem?_toArray, List.getElem?_cons_zero, List.getElem?_cons_succ, List.cons_append, List.nil_append, Act.put, List.setIfInBounds_toArray, List.set_cons_succ, List.set_cons_zero]
  have HB1 := Aside0.mk (below_step HB.out hbW1)
  have HS1 := Aside0.mk hSW1
  clear hbW1 hSW1 hx0
  refine plan_pure _ rfl (fun w' => by go_simp; rfl) ?_
  simp only [planOps, List.getElem?_toArray, List.getElem?_cons_zero, List.getElem?_cons_succ, List.cons_append, List.nil_append, Act.put, List.setIfInBounds_toArray, List.set_cons_succ, List.set_cons_zero]
  refine plan_quiet _ rfl (fun w' hS => by have x0 := hb_cell (hS.2) 1; simp at x0; clear hS; go_simp; rfl) ?_
  simp only [planOps, List.getElem?_toArray, List.getElem?_cons_zero, List.getElem?_cons_succ, List.cons_append, List.nil_append, Act.put, List.setIfInBounds_toArray, List.set_cons_succ, List.set_cons_zero]
  refine plan_pure _ rfl (fun w' => by go_simp; rfl) ?_
  simp only [planOps, List.getElem?_toArray, List.getElem?_cons_zero, List.getElem?_cons_succ, List.cons_append, List.nil_append, Act.put, List.setIfInBounds_toArray, List.set_cons_succ, List.set_cons_zero]
  refine plan_pure _ rfl (fun w' => by go_simp; rfl) ?_
  simp only [planOps, List.getElem?_toArray, List.getElem?_cons_zero, List.getElem?_cons_succ, List.cons_append, List.nil_append, Act.put, List.setIfInBounds_toArray, List.set_cons_succ, List.set_cons_zero]
  refine plan_pure _ rfl (fun w' => by go_simp; rfl) ?_
  simp only [planOps, List.getElem?_toArray, List.getElem?_cons_zero, List.getElem?_cons_succ, List.cons_append, List.nil_append, Act.put, List.setIfInBounds_toArray, List.set_cons_succ, List.set_cons_zero]
  refine plan_quiet _ rfl (fun w' hS => by have x0 := hb_cell (hS.1) 0; simp at x0; clear hS; go_simp; rfl) ?_
  simp only [planOps, List.getElem?_toArray, List.getElem?_cons_zero, List.getElem?_cons_succ, List.cons_append, List.nil_append, Act.put, List.setIfInBounds_toArray, List.set_cons_succ, List.set_cons_zero]
  refine plan_pure _ rfl (fun w' => by go_simp; rfl) ?_
  simp only [planOps, List.getElem?_toArray, List.getElem?_cons_zero, List.getElem?_cons_succ, List.cons_append, List.nil_append, Act.put, List.setIfInBounds_toArray, List.set_cons_succ, List.set_cons_zero]
  refine plan_pure _ rfl (fun w' => by go_simp; rfl) ?_
  simp only [planOps, List.getElem?_toArray, List.getElem?_cons_zero, List.getElem?_cons_succ, List.cons_append, List.nil_append, Act.put, List.setIfInBounds_toArray, List.set_cons_succ, List.set_cons_zero]
  refine plan_pure _ rfl (fun w' => by go_simp; rfl) ?_
  simp only [planOps, List.getElem?_toArray, List.getElem?_cons_zero, List.getElem?_cons_succ, List.cons_append, List.nil_append, Act.put, List.setIfInBounds_toArray, List.set_cons_succ, List.set_cons_zero]
  refine plan_nil ?_
  go_wp2
  refine plan_regionW [(0, .pure), (1, .pure), (2, .pure), (3, .quiet), (4, .pure), (5, .quiet), (6, .pure), (7, .quiet), (8, .pure), (9, .last)] [9] (fun W1 => W1.heap[g]? = some (.cells #[.slice (some ⟨g1, 0, none⟩) ss.length k, v1, .int .i64 cap] 30 (0, 0)) ∧ W1.heap[W.heap.size]? = some (.cells #[.int .i64 y0, .int .i64 (i : Int), .slice A y2.length c] 55 (0, 0))) (by kernel_rfl) (by kernel_rfl) (by decide) (fun _ _ _ _ _ h => h) (fun w_ hb_ => ⟨blk_below HS1.out.1 hb_, blk_below HS1.out.2 hb_⟩) ?_
  intro W2 hbW2 hSW2
  simp only [planOps, List.getElem?_toArray, List.getElem?_cons_zero, List.getElem?_cons_succ, List.cons_append, List.nil_append, Act.put, List.setIfInBounds_toArray, List.set_cons_succ, List.set_cons_zero]
  have HB2 := Aside0.mk (below_step HB1.out hbW2)
  clear hbW2 hSW2
  refine plan_pure _ rfl (fun w' => by go_simp; rfl) ?_
  simp only [planOps, List.getElem?_toArray, List.getElem?_cons_zero, List.getElem?_cons_succ, List.cons_append, List.nil_append, Act.put, List.setIfInBounds_toArray, List.set_cons_succ, List.set_cons_zero]
  refine plan_pure _ rfl (fun w' => by go_simp; rfl) ?_
  simp only [planOps, List.getElem?_toArray, List.getElem?_cons_zero, List.getElem?_cons_succ, List.cons_append, List.nil_append, Act.put, List.setIfInBounds_toArray, List.set_cons_succ, List.set_cons_zero]
  refine plan_pure _ rfl (fun w' => by go_simp; rfl) ?_
  simp only [planOps, List.getElem?_toArray, List.getElem?_cons_zero, List.getElem?_cons_succ, List.cons_append, List.nil_append, Act.put, List.setIfInBounds_toArray, List.set_cons_succ, List.set_cons_zero]
  refine plan_quiet _ rfl (fun w' hS => by have x0 := hb_cell (hS.1) 0; simp at x0; clear hS; go_simp; rfl) ?_
  simp only [planOps, List.getElem?_toArray, List.getElem?_cons_zero, List.getElem?_cons_succ, List.cons_append, List.nil_append, Act.put, List.setIfInBounds_toArray, List.set_cons_succ, List.set_cons_zero]
  refine plan_pure _ rfl (fun w' => by go_simp; rfl) ?_
  simp only [planOps, List.getElem?_toArray, List.getElem?_cons_zero, List.getElem?_cons_succ, List.cons_append, List.nil_append, Act.put, List.setIfInBounds_toArray, List.set_cons_succ, List.set_cons_zero]
  refine plan_quiet _ rfl (fun w' hS => by have x0 := hb_cell (hS.2) 1; simp at x0; clear hS; go_simp; rfl) ?_
  simp only [planOps, List.getElem?_toArray, List.getElem?_cons_zero, List.getElem?_cons_succ, List.cons_append, List.nil_append, Act.put, List.setIfInBounds_toArray, List.set_cons_succ, List.set_cons_zero]
  refine plan_pure _ rfl (fun w' => by go_simp; rfl) ?_
  simp only [planOps, List.getElem?_toArray, List.getElem?_cons_zero, List.getElem?_cons_succ, List.cons_append, List.nil_append, Act.put, List.setIfInBounds_toArray, List.set_cons_succ, List.set_cons_zero]
  refine plan_quiet _ rfl (fun w' hS => by have x0 := hb_cell (hS.2) 2; simp at x0; clear hS; go_simp; rfl) ?_
  simp only [planOps, List.getElem?_toArray, List.getElem?_cons_zero, List.getElem?_cons_succ, List.cons_append, List.nil_append, Act.put, List.setIfInBounds_toArray, List.set_cons_succ, List.set_cons_zero]
  refine plan_pure (.pointer (some ⟨g1, i, none⟩)) rfl (fun w' => by go_simp) ?_
  simp only [planOps, List.getElem?_toArray, List.getElem?_cons_zero, List.getElem?_cons_succ, List.cons_append, List.nil_append, Act.put, List.setIfInBounds_toArray, List.set_cons_succ, List.set_cons_zero]
  have hf := hb_free (blk_below HC.out HB2.out) i
  have hz := pw_cell_below HB2.out HU.out
  refine plan_skip rfl rfl (by go_simp; rfl) ?_
  refine plan_nil ?_
  go_wp2
  go_end0
  exact ⟨rfl, HFIN.out _ HB2.out⟩
/-- One sector of zeros more. -/
theorem host_Crash.app {w W W3 w1 : World} {g k B1k : Nat} {B B1 : Option Addr} {v0 v1 : Value} {cap : Int} {us rest : List Value} {ss xs : List (List Int)} (h : host_Crash.Own w g (.slice B ss.length k) v1 cap us rest ss xs W3)
    (hs : host_Crash.Same g v0 W W3) (hv : (Value.slice B ss.length k).ownBlock = v0.ownBlock ∨ ∃ b, (Value.slice B ss.length k).ownBlock = some b ∧ W.heap.size ≤ b)
    (hown : w1.ownsRow w.heap.size 26 1 (.slice B1 (ss.length + 1) B1k) (ss.length + 1) (us ++ [.slice (some ⟨W3.heap.size, 0, none⟩) 64 64]))
    (hb : Below w.heap.size w w1) (hg : (W3.alloc (.cells (madeCells #[.int .u8 0] 64) 5)).grownBy w1 (Value.slice B ss.length k).ownBlock)
    (hat : (Value.slice B1 (ss.length + 1) B1k).ownBlock = (Value.slice B ss.length k).ownBlock ∨ ∃ b, (Value.slice B1 (ss.length + 1) B1k).ownBlock = some b ∧ (W3.alloc (.cells (madeCells #[.int .u8 0] 64) 5)).heap.size ≤ b) :
    host_Crash.Done w g v0 v1 cap rest (ss ++ [zeros64]) xs W (w1.setCell ⟨g, 0, none⟩ (.slice B1 (ss.length + 1) B1k)) := by
  have hul := h.max.1
  have hal := below_alloc (Below.refl W3.heap.size W3) (.cells (madeCells #[.int .u8 0] 64) 5)
  obtain ⟨b1, o0, nst, bel, hg0⟩ := h
  have hsz : (W3.alloc (.cells (madeCells #[.int .u8 0] 64) 5)).heap.size = W3.heap.size + 1 := by simp
  have hrow := own_made W3 w.heap.size 5 .u8 64 bel.size (by omega)
  have hR : Kd.R (Kd.int .u8) 5 (W3.alloc (.cells (madeCells #[.int .u8 0] 64) 5)) w.heap.size (fun _ => True) (.slice (some ⟨W3.heap.size, 0, none⟩) 64 64) zeros64 := Kd.R_of_own (by rw [show zeros64.length = 64 from by simp [zeros64]]; exact hrow) (fun _ _ => trivial)
  have n1 := (nst.below hal).mid hul rfl hR (fun u hu k hk hk' => by
    have h1 := (nst.lt hu hk).2.1
    simp [Value.ownBlock] at hk'
    omega)
  have hvne : ∀ k', (Value.slice B ss.length k).ownBlock = some k' → ∃ cells, (W3.alloc (.cells (madeCells #[.int .u8 0] 64) 5)).heap[k']? = some (.cells cells 26 (0, 0)) := fun k' hk' => own_typed (pw_own_below o0 hal) k' hk'
  have n2 := n1.grown hg (fun u hu k' hk he => by
    obtain ⟨cells, hc⟩ := hvne k' he.symm
    exact n1.typed hc (by decide) hu hk rfl)
  have hbg : g < W3.heap.size := blk_lt b1
  have b2 : w1.heap[g]? = some (.cells #[.slice B ss.length k, v1, .int .i64 cap] 30 (0, 0)) := by
    rw [hg.block g (by rw [hsz]; omega) (fun e => by
      obtain ⟨cells, hc⟩ := hvne g e.symm
      rw [blk_below b1 hal] at hc
      simp at hc)]
    exact blk_below b1 hal
  have hB1 : ∀ k', (Value.slice B1 (ss.length + 1) B1k).ownBlock = some k' → g ≠ k' := fun k' hk' e => by
    obtain ⟨cells, hc⟩ := own_typed hown k' hk'
    rw [← e, b2] at hc
    simp at hc
  have hl : (ss ++ [zeros64]).length = ss.length + 1 := by simp
  have hvb : (Value.slice B1 (ss ++ [zeros64]).length B1k).ownBlock = v0.ownBlock ∨ ∃ b, (Value.slice B1 (ss ++ [zeros64]).length B1k).ownBlock = some b ∧ W.heap.size ≤ b := by
    rw [hl]
    rcases hat with hat | ⟨b, hb1, hb2⟩
    · rw [hat]
      rcases hv with hv | hv
      · exact .inl hv
      · exact .inr hv
    · exact .inr ⟨b, hb1, by have := hs.1; omega⟩
  refine ⟨B1, B1k, us ++ [.slice (some ⟨W3.heap.size, 0, none⟩) 64 64], ⟨?_, ?_, n2.set b2 (by decide) 0 _, below_set hb hg0, hg0⟩, ((hs.below hal).grown hg hv).set (.inl rfl) _, hvb⟩
  · rw [hl]
    simpa using hb_set b2 0 (.slice B1 (ss.length + 1) B1k)
  · rw [hl]
    exact own_setCell hown (fun e => hB1 g e.symm rfl) _
/-- Sectors cut. -/
theorem host_Crash.cut {w W W1 : World} {g k : Nat} {B : Option Addr} {v1 : Value} {cap : Int} {us rest : List Value} {ss xs : List (List Int)} {d : Value} {x : List Int} (h : host_Crash.Own w g (.slice B ss.length k) v1 cap us (d :: rest) ss (x :: xs) W) (hb : Below W.heap.size W W1) (m : Nat) (hm : m ≤ ss.length) :
    host_Crash.Done w g (.slice B ss.length k) v1 cap rest (ss.take m) xs W (W1.setCell ⟨g, 0, none⟩ (.slice B m k)) := by
  have hul := h.max.1
  obtain ⟨b1, o0, nst, bel, hg⟩ := h.below hb
  have hl : (ss.take m).length = m := by simp; omega
  have hne : some g ≠ (Value.slice B ss.length k).ownBlock := fun e => by
    obtain ⟨cells, hc⟩ := own_typed o0 g e.symm
    rw [b1] at hc
    simp at hc
  have hown : W1.ownsRow w.heap.size 26 1 (.slice B m k) m (us.take m) := by
    have := own_take o0 hm
    rwa [Nat.mul_one] at this
  have hob : (Value.slice B m k).ownBlock = (Value.slice B ss.length k).ownBlock := by cases B <;> rfl
  refine ⟨B, k, us.take m, ⟨?_, ?_, ((nst.skip hul).cut hul m).set b1 (by decide) 0 _, below_set bel hg, hg⟩, ((host_Crash.Same.refl _ _ _).below hb).set (.inl rfl) _, ?_⟩
  · rw [hl]
    simpa using hb_set b1 0 (.slice B m k)
  · rw [hl]
    exact own_setCell hown (by rw [hob]; exact hne) _
  · rw [hl]
    exact .inl hob

theorem host_Crash.Own.cap {w W : World} {g k : Nat} {B : Option Addr} {v1 : Value} {cap : Int} {us rest : List Value} {ss xs : List (List Int)} (h : host_Crash.Own w g (.slice B ss.length k) v1 cap us rest ss xs W) : ss.length ≤ k := own_le h.2.1
set_option maxRecDepth 100000 in
set_option maxHeartbeats 2000000 in
theorem host_Crash.do_size (w W : World) (g : Nat) (v1 : Value) (cap : Int) (us : List Value) (ss : List (List Int)) (y1 : Int) (y2 : List Int) (d : Value) (rest : List Value) (xs : List (List Int)) (B : Option Addr) (k : Nat)
    (h : host_Crash.Own w g (.slice B ss.length k) v1 cap us (d :: rest) ss (y2 :: xs) W) (hp : 0 ≤ y1) (hq : y1 ≤ 65536) :
    Calls Try.prog 41 #[.pointer (some ⟨g, 0, none⟩), .agg #[.int .i64 2, .int .i64 y1, d]] W fun e w' => e = .returned (.tuple #[]) ∧ host_Crash.Done w g (.slice B ss.length k) v1 cap rest (ss.take y1.toNat ++ List.replicate (y1.toNat - ss.length) zeros64) xs W w' := by
  obtain ⟨A, c, rfl⟩ := h.slice
  have hn := h.max.2
  have hul := h.max.1
  have hk := h.cap
  obtain ⟨m, rfl⟩ := Pl.nat_of hp
  obtain ⟨n, hnn⟩ : ∃ n, n = ss.length := ⟨_, rfl⟩
  obtain ⟨mm, hmm⟩ : ∃ mm : Nat, mm = min n m := ⟨_, rfl⟩
  have hmin : (if m < n then (m : Int) else (n : Int)) = (mm : Int) := by split <;> omega
  have HMIN := Aside0.mk hmin
  have htake : ss.take m = ss.take mm := by
    rcases Nat.lt_or_ge n m with h | h
    · rw [List.take_of_length_le (by omega), List.take_of_length_le (by omega)]
    · rw [show mm = m by omega]
  obtain ⟨i0, hi0, _⟩ := Option.map_eq_some_iff.1 info26
  have hcut := cut_to (P := Try.prog) 22 26 .i64 Try.underlying22 hi0 B n k (mm : Int) (by omega) (by omega) (by omega)
  simp only [Int.toNat_natCast] at hcut
  have hmk := print_make (P := Try.prog) 26 5 .u8 1 Try.underlying26 info5 (by omega) 64 (by omega)
  have hfin := fun W1 hb => host_Crash.cut h (W1 := W1) hb mm (by omega)
  have HFIN := Aside0.mk hfin
  have hgl := blk_lt h.1
  have hx0 : ∀ o, (W.alloc o).cell? ⟨g, 0, none⟩ = some (.slice B n k) := fun o => (World.cell?_alloc_lt _ _ _ hgl).trans ((hb_cell (show W.heap[g]? = some (.cells #[.slice B n k, v1, .int .i64 cap] 30 (0, 0)) by rw [hnn]; exact h.1) 0).trans rfl)
  have HBX := Aside0.mk (show W.heap[g]? = some (.cells #[.slice B n k, v1, .int .i64 cap] 30 (0, 0)) by rw [hnn]; exact h.1)
  have HB := Aside0.mk (below_alloc (Below.refl W.heap.size W) (.cells #[.int .i64 2, .int .i64 (m : Int), .slice A y2.length c] 55))
  have HNB := Aside0.mk (hb_new W #[.int .i64 2, .int .i64 (m : Int), .slice A y2.length c] 55)
  rw [Int.toNat_natCast, htake]
  have HN := Aside0.mk hnn
  have hn2 : n ≤ 9223372036854775807 := by omega
  have hm2 : m ≤ 65536 := by omega
  have HTM := Aside0.mk hmm
  clear h hp hfin hmin htake hnn hmm hul hi0
  rw [show (Value.slice B ss.length k) = .slice B n k by rw [HN.out]] at *
  go_enter Try.func41, Try.ntmps41
  go_wp2
  refine plan_regionW [(0, .pure), (1, .pure), (2, .pure), (3, .pure), (4, .quiet), (5, .pure), (6, .pure), (7, .quiet), (8, .pure), (9, .pure), (10, .pure), (11, .pure), (12, .last)] [12] (fun W1 => W1.heap[g]? = some (.cells #[.slice B n k, v1, .int .i64 cap] 30 (0, 0)) ∧ W1.heap[W.heap.size]? = some (.cells #[.int .i64 2, .int .i64 (m : Int), .slice A y2.length c] 55 (0, 0))) (by kernel_rfl) (by kernel_rfl) (by decide) (fun _ _ _ _ _ h => h) (fun w_ hb_ => ⟨blk_below ((Below.heap_alloc _ _ _ hgl).trans HBX.out) hb_, blk_below HNB.out hb_⟩) ?_
  intro W1 hbW1 hSW1
  simp only [planOps, List.getElem?_toArray, List.getElem?_cons_zero, List.getElem?_cons_succ, List.cons_append, List.nil_append, Act.put, List.setIfInBounds_toArray, List.set_cons_succ, List.set_cons_zero]
  have HB1 := Aside0.mk (below_step HB.out hbW1)
  have HS1 := Aside0.mk hSW1
  clear hbW1 hSW1 hx0
  refine plan_pure _ rfl (fun w' => by go_simp; rfl) ?_
  simp only [planOps, List.getElem?_toArray, List.getElem?_cons_zero, List.getElem?_cons_succ, List.cons_append, List.nil_append, Act.put, List.setIfInBounds_toArray, List.set_cons_succ, List.set_cons_zero]
  refine plan_pure _ rfl (fun w' => by go_simp; rfl) ?_
  simp only [planOps, List.getElem?_toArray, List.getElem?_cons_zero, List.getElem?_cons_succ, List.cons_append, List.nil_append, Act.put, List.setIfInBounds_toArray, List.set_cons_succ, List.set_cons_zero]
  refine plan_pure _ rfl (fun w' => by go_simp; rfl) ?_
  simp only [planOps, List.getElem?_toArray, List.getElem?_cons_zero, List.getElem?_cons_succ, List.cons_append, List.nil_append, Act.put, List.setIfInBounds_toArray, List.set_cons_succ, List.set_cons_zero]
  refine plan_pure _ rfl (fun w' => by go_simp; rfl) ?_
  simp only [planOps, List.getElem?_toArray, List.getElem?_cons_zero, List.getElem?_cons_succ, List.cons_append, List.nil_append, Act.put, List.setIfInBounds_toArray, List.set_cons_succ, List.set_cons_zero]
  refine plan_quiet _ rfl (fun w' hS => by have x0 := hb_cell (hS.1) 0; simp at x0; clear hS; go_simp; rfl) ?_
  simp only [planOps, List.getElem?_toArray, List.getElem?_cons_zero, List.getElem?_cons_succ, List.cons_append, List.nil_append, Act.put, List.setIfInBounds_toArray, List.set_cons_succ, List.set_cons_zero]
  refine plan_pure _ rfl (fun w' => by go_simp; rfl) ?_
  simp only [planOps, List.getElem?_toArray, List.getElem?_cons_zero, List.getElem?_cons_succ, List.cons_append, List.nil_append, Act.put, List.setIfInBounds_toArray, List.set_cons_succ, List.set_cons_zero]
  refine plan_pure _ rfl (fun w' => by go_simp; rfl) ?_
  simp only [planOps, List.getElem?_toArray, List.getElem?_cons_zero, List.getElem?_cons_succ, List.cons_append, List.nil_append, Act.put, List.setIfInBounds_toArray, List.set_cons_succ, List.set_cons_zero]
  refine plan_quiet _ rfl (fun w' hS => by have x0 := hb_cell (hS.2) 1; simp at x0; clear hS; go_simp; rfl) ?_
  simp only [planOps, List.getElem?_toArray, List.getElem?_cons_zero, List.getElem?_cons_succ, List.cons_append, List.nil_append, Act.put, List.setIfInBounds_toArray, List.set_cons_succ, List.set_cons_zero]
  refine plan_pure (.int .i64 (mm : Int)) rfl (fun w' => by go_simp; exact HMIN.out) ?_
  simp only [planOps, List.getElem?_toArray, List.getElem?_cons_zero, List.getElem?_cons_succ, List.cons_append, List.nil_append, Act.put, List.setIfInBounds_toArray, List.set_cons_succ, List.set_cons_zero]
  refine plan_pure (.slice B mm k) rfl (fun w' => by go_simp) ?_
  simp only [planOps, List.getElem?_toArray, List.getElem?_cons_zero, List.getElem?_cons_succ, List.cons_append, List.nil_append, Act.put, List.setIfInBounds_toArray, List.set_cons_succ, List.set_cons_zero]
  refine plan_pure _ rfl (fun w' => by go_simp; rfl) ?_
  simp only [planOps, List.getElem?_toArray, List.getElem?_cons_zero, List.getElem?_cons_succ, List.cons_append, List.nil_append, Act.put, List.setIfInBounds_toArray, List.set_cons_succ, List.set_cons_zero]
  refine plan_pure _ rfl (fun w' => by go_simp; rfl) ?_
  simp only [planOps, List.getElem?_toArray, List.getElem?_cons_zero, List.getElem?_cons_succ, List.cons_append, List.nil_append, Act.put, List.setIfInBounds_toArray, List.set_cons_succ, List.set_cons_zero]
  have hf := hb_free HS1.out.1 0
  have hx := hb_cell HS1.out.1 0
  simp at hx
  refine plan_skip rfl rfl (by go_simp; rfl) ?_
  refine plan_nil ?_
  have hdone := HFIN.out W1 HB1.out
  have hact : (W1.setCell ⟨g, 0, none⟩ (.slice B mm k)).heap[W.heap.size]? = some (.cells #[.int .i64 2, .int .i64 (m : Int), .slice A y2.length c] 55 (0, 0)) := (hb_keep _ _ _ (by omega)).trans HS1.out.2
  generalize W1.setCell ⟨g, 0, none⟩ (.slice B mm k) = W2 at hdone hact ⊢
  have HD := Aside0.mk hdone
  have x1 := hb_cell hact 1
  simp at x1
  clear hf hx hdone hact HB1 HS1 HMIN hcut
  go_wp2
  go_loopw [30] (fun v wr => ∃ j : Nat, j ≤ m - n ∧ v = .int .i64 j ∧ Aside0 (host_Crash.Done w g (.slice B n k) v1 cap rest (ss.take mm ++ List.replicate j zeros64) xs W wr)) (fun v _ => m - n - (intOf v).toNat)
  case atStart => exact ⟨0, Nat.zero_le _, rfl, ⟨by simpa using HD.out⟩⟩
  case round =>
    obtain ⟨j, hj, rfl, HJ⟩ := hrel
    clear HD x1
    by_cases hlt : j < m - n
    · have hlt' : (j : Int) < (m : Int) - (n : Int) := by omega
      obtain ⟨B', k', us', own, same, hv⟩ := HJ.out
      have hlen : (ss.take mm ++ List.replicate j zeros64).length = mm + j := by
        have := HN.out; have := HTM.out; simp; omega
      generalize hss : ss.take mm ++ List.replicate j zeros64 = ss' at own hv hlen
      have HSS := Aside0.mk hss
      have HOWN := Aside0.mk own
      have HSAME := Aside0.mk same
      have HV := Aside0.mk hv
      have HLEN := Aside0.mk hlen
      clear own same hv hss hlen
      go_wp2
      refine plan_regionW [(0, .pure), (1, .pure), (2, .pure), (3, .pure), (4, .quiet), (5, .loud), (6, .loud), (7, .last), (8, .pure), (9, .pure), (10, .last)] [7, 10] (fun W1 => W1.heap[g]? = some (.cells #[.slice B' ss'.length k', v1, .int .i64 cap] 30 (0, 0))) (by kernel_rfl) (by kernel_rfl) (by decide) (fun _ _ _ _ _ h => h) (fun w_ hb_ => blk_below HOWN.out.1 hb_) ?_
      intro W3 hbW3 hSW3
      simp only [planOps, List.getElem?_toArray, List.getElem?_cons_zero, List.getElem?_cons_succ, List.cons_append, List.nil_append, Act.put, List.setIfInBounds_toArray, List.set_cons_succ, List.set_cons_zero]
      have HOWN3 := Aside0.mk (HOWN.out.below hbW3)
      have HSAME3 := Aside0.mk (HSAME.out.below hbW3)
      clear hbW3 hSW3
      refine plan_pure _ rfl (fun w' => by go_simp; rfl) ?_
      simp only [planOps, List.getElem?_toArray, List.getElem?_cons_zero, List.getElem?_cons_succ, List.cons_append, List.nil_append, Act.put, List.setIfInBounds_toArray, List.set_cons_succ, List.set_cons_zero]
      refine plan_pure _ rfl (fun w' => by go_simp; rfl) ?_
      simp only [planOps, List.getElem?_toArray, List.getElem?_cons_zero, List.getElem?_cons_succ, List.cons_append, List.nil_append, Act.put, List.setIfInBounds_toArray, List.set_cons_succ, List.set_cons_zero]
      refine plan_pure _ rfl (fun w' => by go_simp; rfl) ?_
      simp only [planOps, List.getElem?_toArray, List.getElem?_cons_zero, List.getElem?_cons_succ, List.cons_append, List.nil_append, Act.put, List.setIfInBounds_toArray, List.set_cons_succ, List.set_cons_zero]
      refine plan_pure _ rfl (fun w' => by go_simp; rfl) ?_
      simp only [planOps, List.getElem?_toArray, List.getElem?_cons_zero, List.getElem?_cons_succ, List.cons_append, List.nil_append, Act.put, List.setIfInBounds_toArray, List.set_cons_succ, List.set_cons_zero]
      refine plan_quiet _ rfl (fun w' hS => by have x0 := hb_cell (hS) 0; simp at x0; clear hS; go_simp; rfl) ?_
      simp only [planOps, List.getElem?_toArray, List.getElem?_cons_zero, List.getElem?_cons_succ, List.cons_append, List.nil_append, Act.put, List.setIfInBounds_toArray, List.set_cons_succ, List.set_cons_zero]
      have hal := below_alloc (Below.refl W3.heap.size W3) (.cells (madeCells #[.int .u8 0] 64) 5)
      refine plan_value (.slice (some ⟨W3.heap.size, 0, none⟩) 64 64) rfl (by go_simp; rfl) (blk_below HOWN3.out.1 hal) ?_
      simp only [planOps, List.getElem?_toArray, List.getElem?_cons_zero, List.getElem?_cons_succ, List.cons_append, List.nil_append, Act.put, List.setIfInBounds_toArray, List.set_cons_succ, List.set_cons_zero]
      refine plan_value (.slice (some ⟨(W3.alloc (.cells (madeCells #[.int .u8 0] 64) 5)).heap.size, 0, none⟩) 1 1) rfl (by go_simp; rfl) (blk_below (blk_below HOWN3.out.1 hal) (below_alloc (Below.refl _ _) _)) ?_
      simp only [planOps, List.getElem?_toArray, List.getElem?_cons_zero, List.getElem?_cons_succ, List.cons_append, List.nil_append, Act.put, List.setIfInBounds_toArray, List.set_cons_succ, List.set_cons_zero]
      refine plan_lastK fun K hK => step_append_cells (w0 := w) (W := W3.alloc (.cells (madeCells #[.int .u8 0] 64) 5)) w.heap.size rfl (.tmp 36) (.tmp 38) 22 26 (.slice none 0 0) 1 24 rfl Try.underlying22 info26 rfl (by omega) (by omega) (.slice B' ss'.length k') ss'.length us' [.slice (some ⟨W3.heap.size, 0, none⟩) 64 64] rfl rfl rfl (by simp [Value.oneCell']) (pw_own_below HOWN3.out.2.1 hal) (below_step HOWN3.out.2.2.2.1 hal) (below_step HOWN3.out.2.2.2.1 hal).size (by have := HLEN.out; have := HTM.out; omega) ?_
      intro vn w5 hown5 hb5 hg5 hat5
      refine hK _ _ ?_
      obtain ⟨B5, k5, rfl⟩ := own_slice hown5
      have happ := host_Crash.app HOWN3.out HSAME3.out HV.out hown5 hb5 hg5 hat5
      have hbx : w5.heap[g]? = some (.cells #[.slice B' ss'.length k', v1, .int .i64 cap] 30 (0, 0)) := by
        rw [hg5.block g (Nat.lt_of_lt_of_le (blk_lt HOWN3.out.1) hal.size) (fun e => by
          obtain ⟨cells, hc⟩ := own_typed (pw_own_below HOWN3.out.2.1 hal) g e.symm
          rw [blk_below HOWN3.out.1 hal] at hc
          simp at hc)]
        exact blk_below HOWN3.out.1 hal
      have HAPP := Aside0.mk happ
      clear happ hown5 hb5 hg5 hat5 hal hK
      simp only [planOps, List.getElem?_toArray, List.getElem?_cons_zero, List.getElem?_cons_succ, List.cons_append, List.nil_append, Act.put, List.setIfInBounds_toArray, List.set_cons_succ, List.set_cons_zero]
      refine plan_pure _ rfl (fun w' => by go_simp; rfl) ?_
      simp only [planOps, List.getElem?_toArray, List.getElem?_cons_zero, List.getElem?_cons_succ, List.cons_append, List.nil_append, Act.put, List.setIfInBounds_toArray, List.set_cons_succ, List.set_cons_zero]
      refine plan_pure _ rfl (fun w' => by go_simp; rfl) ?_
      simp only [planOps, List.getElem?_toArray, List.getElem?_cons_zero, List.getElem?_cons_succ, List.cons_append, List.nil_append, Act.put, List.setIfInBounds_toArray, List.set_cons_succ, List.set_cons_zero]
      have hf := hb_free hbx 0
      have hx := hb_cell hbx 0
      simp at hx
      clear hbx
      refine plan_skip rfl rfl (by go_simp; rfl) ?_
      refine plan_nil ?_
      clear hf hx
      generalize World.setCell w5 _ _ = W6 at HAPP ⊢
      go_wp2
      go_roundw
      case rel =>
        refine ⟨j + 1, by omega, by go_num, ⟨?_⟩⟩
        have := HAPP.out
        rw [← HSS.out, List.append_assoc] at this
        rwa [show List.replicate (j + 1) zeros64 = List.replicate j zeros64 ++ [zeros64] from List.replicate_succ' ..]
      case measure => simp [intOf]; omega
    · obtain rfl : j = m - n := by omega
      have hlt' : ¬ ((m - n : Nat) : Int) < (m : Int) - (n : Int) := by omega
      have hlt2 : decide (((m - n : Nat) : Int) < (m : Int) - (n : Int)) = false := decide_eq_false hlt'
      clear hlt'
      have HN2 := Aside0.mk (show m - ss.length = m - n by rw [HN.out])
      go_wp2
      go_end0
      exact ⟨rfl, by rw [HN2.out]; exact HJ.out⟩
theorem host_Crash.doc (w W : World) (g : Nat) (v1 : Value) (cap : Int) (us : List Value) (ss : List (List Int)) (a : S55) (d : Value) (rest : List Value) (xs : List (List Int)) (B : Option Addr) (k : Nat)
    (h : host_Crash.Own w g (.slice B ss.length k) v1 cap us (d :: rest) ss (a.f2 :: xs) W) (hp : 0 ≤ a.f1) (hq : a.f1 ≤ 65536) :
    Calls Try.prog 41 #[.pointer (some ⟨g, 0, none⟩), .agg #[.int .i64 a.f0, .int .i64 a.f1, d]] W fun e w' => e = .returned (.tuple #[]) ∧ host_Crash.Done w g (.slice B ss.length k) v1 cap rest (host_Crash.doS ss a) xs W w' := by
  unfold host_Crash.doS
  by_cases h0 : a.f0 = 2
  · rw [if_pos h0, h0]
    exact host_Crash.do_size w W g v1 cap us ss a.f1 a.f2 d rest xs B k h hp hq
  · rw [if_neg h0]
    by_cases h1 : a.f1 < (ss.length : Int)
    · rw [if_pos h1]
      exact host_Crash.do_put w W g v1 cap us ss a d rest xs B k h h0 h1 hp
    · rw [if_neg h1]
      exact host_Crash.do_none w W g v1 cap us ss a d rest xs B k h h0 h1
/-- Sectors behind the first i acts, as far as they are kept. -/
def host_Crash.run (ss : List (List Int)) (ws : List S55) (keep : List Bool) : Nat → List (List Int)
  | 0 => ss
  | i + 1 => if keep.getD i false = true then host_Crash.doS (host_Crash.run ss ws keep i) (ws.getD i z55) else host_Crash.run ss ws keep i
def host_Crash.f (l0_0 : List (List Int)) (l0_1 : List (S55)) (a0_2 : Int) (l1 : List Bool) : Option ((List (List Int)) × (List (S55)) × Int × Int) :=
  some (if host_Check.chk l0_0 l0_1 a0_2 = 0 then (host_Crash.run l0_0 l0_1 l1 l0_1.length, [], a0_2, 0) else ([], [], 0, 9))
/-- What stands at a round's head. -/
def host_Crash.Inv (w : World) (v1 : Value) (cap : Int) (vs : List Value) (ss : List (List Int)) (ws : List S55) (keep : List Bool) (i : Nat) (W : World) : Prop :=
  ∃ B k us, host_Crash.Own w w.heap.size (.slice B (host_Crash.run ss ws keep i).length k) v1 cap us (vs.drop i) (host_Crash.run ss ws keep i) ((ws.map (·.f2)).drop i) W ∧ W.ownsRow w.heap.size 55 3 v1 ws.length (acells ws vs) ∧
    W.heap[w.heap.size + 1]? = some (.cells #[.slice none 0 0, .slice none 0 0, .int .i64 0] 30 (0, 0))
theorem host_Crash.Inv.below {w W W1 : World} {v1 : Value} {cap : Int} {vs : List Value} {ss : List (List Int)} {ws : List S55} {keep : List Bool} {i : Nat} (h : host_Crash.Inv w v1 cap vs ss ws keep i W) (hb : Below W.heap.size W W1) : host_Crash.Inv w v1 cap vs ss ws keep i W1 := by
  obtain ⟨B, k, us, h1, h2, h3⟩ := h
  exact ⟨B, k, us, h1.below hb, pw_own_below h2 hb, blk_below h3 hb⟩
theorem host_Crash.Inv.off {w W : World} {v1 : Value} {cap : Int} {vs : List Value} {ss : List (List Int)} {ws : List S55} {keep : List Bool} {i : Nat} (h : host_Crash.Inv w v1 cap vs ss ws keep i W) (hi : i < ws.length) (hl : vs.length = ws.length) (hk : keep.getD i false = false) : host_Crash.Inv w v1 cap vs ss ws keep (i + 1) W := by
  obtain ⟨B, k, us, h1, h2, h3⟩ := h
  have hr : host_Crash.run ss ws keep (i + 1) = host_Crash.run ss ws keep i := by simp only [host_Crash.run, hk]; rfl
  refine ⟨B, k, us, ?_, h2, h3⟩
  rw [hr]
  have e1 : vs.drop i = vs[i] :: vs.drop (i + 1) := List.drop_eq_getElem_cons (by omega)
  have e2 : (ws.map (·.f2)).drop i = (ws.map (·.f2))[i]'(by simpa using hi) :: (ws.map (·.f2)).drop (i + 1) := List.drop_eq_getElem_cons (by simpa using hi)
  have hul := h1.max.1
  obtain ⟨b1, o0, nst, bel, hg⟩ := h1
  rw [e1, e2] at nst
  exact ⟨b1, o0, nst.skip hul, bel, hg⟩
theorem host_Crash.Inv.on {w W W1 : World} {B : Option Addr} {k : Nat} {us : List Value} {v1 : Value} {cap : Int} {vs : List Value} {ss : List (List Int)} {ws : List S55} {keep : List Bool} {i : Nat}
    (h1 : host_Crash.Own w w.heap.size (.slice B (host_Crash.run ss ws keep i).length k) v1 cap us (vs.drop i) (host_Crash.run ss ws keep i) ((ws.map (·.f2)).drop i) W) (h2 : W.ownsRow w.heap.size 55 3 v1 ws.length (acells ws vs)) (h3 : W.heap[w.heap.size + 1]? = some (.cells #[.slice none 0 0, .slice none 0 0, .int .i64 0] 30 (0, 0)))
    (hi : i < ws.length) (hk : keep.getD i false = true) (hd : host_Crash.Done w w.heap.size (.slice B (host_Crash.run ss ws keep i).length k) v1 cap (vs.drop (i + 1)) (host_Crash.doS (host_Crash.run ss ws keep i) ws[i]) ((ws.map (·.f2)).drop (i + 1)) W W1) : host_Crash.Inv w v1 cap vs ss ws keep (i + 1) W1 := by
  have hr : host_Crash.run ss ws keep (i + 1) = host_Crash.doS (host_Crash.run ss ws keep i) ws[i] := by
    simp only [host_Crash.run, hk, if_true]
    rw [List.getD_eq_getElem?_getD, List.getElem?_eq_getElem hi]
    rfl
  obtain ⟨B', k', us', own, same, _⟩ := hd
  have hne : ∀ t cells q, W.heap[q]? = some (.cells cells t (0, 0)) → t ≠ 26 → (Value.slice B (host_Crash.run ss ws keep i).length k).ownBlock ≠ some q := fun t cells q hq ht e => by
    obtain ⟨cs, hc⟩ := own_typed h1.2.1 q e
    rw [hc] at hq
    simp at hq
    exact ht hq.2.symm
  refine ⟨B', k', us', by rw [hr]; exact own, own_move h2 fun q hq => ?_, ?_⟩
  · obtain ⟨cells, hc⟩ := own_typed h2 q hq
    refine same.2 q (own_lt h2 q hq) (fun e => ?_) (hne _ _ q hc (by decide))
    rw [e, h1.1] at hc
    simp at hc
  · rw [same.2 _ (blk_lt h3) (by omega) (hne _ _ _ h3 (by decide))]
    exact h3
set_option maxRecDepth 100000 in
theorem host_Crash.bad (A0_0 : Option Addr) (c0_0 : Nat) (l0_0 : List (List Int)) (A0_1 : Option Addr) (c0_1 : Nat) (l0_1 : List (S55)) (a0_2 : Int) (A1 : Option Addr) (c1 : Nat) (l1 : List Bool) (w : World) (hr0_0 : Kd.C (Kd.slice 5 (Kd.int .u8)) w A0_0 l0_0.length l0_0) (hc0_0 : l0_0.length ≤ c0_0) (hr0_1 : Kd.C k55 w A0_1 l0_1.length l0_1) (hc0_1 : l0_1.length ≤ c0_1) (hc : host_Check.chk l0_0 l0_1 a0_2 = 9) :
    Calls Try.prog 18 #[.agg #[.slice A0_0 l0_0.length c0_0, .slice A0_1 l0_1.length c0_1, .int .i64 a0_2], .slice A1 l1.length c1] w fun e w' => e = .returned (.tuple #[.agg #[.slice none 0 0, .slice none 0 0, .int .i64 0], .int .i64 9]) ∧ Below w.heap.size w w' := by
  have HCH := Aside0.mk (fun W hW => host_Check.calls A0_0 c0_0 l0_0 A0_1 c0_1 l0_1 a0_2 9 W (Kd.C_below hr0_0 hW) hc0_0 (Kd.C_below hr0_1 hW) hc0_1 (by unfold host_Check.f; rw [hc]))
  have HB := Aside0.mk (below_alloc (below_alloc (Below.refl w.heap.size w) (.cells #[.slice A0_0 l0_0.length c0_0, .slice A0_1 l0_1.length c0_1, .int .i64 a0_2] 30)) (.cells #[.slice none 0 0, .slice none 0 0, .int .i64 0] 30))
  have hz := hb_new (w.alloc (.cells #[.slice A0_0 l0_0.length c0_0, .slice A0_1 l0_1.length c0_1, .int .i64 a0_2] 30)) #[.slice none 0 0, .slice none 0 0, .int .i64 0] 30
  rw [show (w.alloc (.cells #[.slice A0_0 l0_0.length c0_0, .slice A0_1 l0_1.length c0_1, .int .i64 a0_2] 30)).heap.size = w.heap.size + 1 by simp] at hz
  have HZ := Aside0.mk hz
  clear hr0_0 hr0_1 hc0_0 hc0_1 hc hz
  go_enter Try.func18, Try.ntmps18
  go_wp2_with (go_at_call 20; refine (HCH.out _ HB.out).mono ?_; rintro e w1 ⟨rfl, hb⟩; have HB1 := Aside0.mk (below_step HB.out hb); have HZ1 := Aside0.mk (blk_below HZ.out hb); clear hb; have y0 := hb_cell HZ1.out 0; have y1 := hb_cell HZ1.out 1; have y2 := hb_cell HZ1.out 2; simp at y0 y1 y2; have f0 := hb_free HZ1.out 0; have f1 := hb_free HZ1.out 1; have f2 := hb_free HZ1.out 2)
  obtain ⟨W3, hW3, q0, r0, r1, r2, _, hbl⟩ := set3 HZ1.out (.slice none 0 0) (.slice none 0 0) (.int .i64 0)
  rw [← hW3]
  have HBL := Aside0.mk (hbl w HB1.out (by omega))
  clear hW3 q0 hbl y0 y1 y2 f0 f1 f2
  refine bodyPost_ret (v := .tuple #[.agg #[.slice none 0 0, .slice none 0 0, .int .i64 0], .int .i64 9]) (by simp [results, Try.results18, go_sem, r0, r1, r2]) rfl ⟨rfl, HBL.out⟩
theorem host_Crash.valid {ss : List (List Int)} {ws : List S55} {cap : Int} (h : host_Check.chk ss ws cap = 0) : 1 ≤ cap ∧ cap ≤ 65536 ∧ (ss.length : Int) ≤ cap ∧ (∀ x ∈ ss, x.length = 64) ∧ ws.length ≤ 4096 ∧ ∀ a ∈ ws, host_Check.may a.f0 a.f1 a.f2.length cap = true := by
  unfold host_Check.chk at h
  split at h
  · omega
  · rename_i hn
    simp only [not_or, Int.not_lt, Bool.not_eq_true] at hn
    obtain ⟨h1, h2, h3, h4, h5, h6⟩ := hn
    refine ⟨h1, h2, h3, fun x hx => ?_, by omega, fun a ha => ?_⟩
    · have := List.any_eq_false.1 h4 x hx
      simp at this
      omega
    · have := List.any_eq_false.1 h6 a ha
      unfold host_Check.badA at this
      simpa using this
theorem host_Crash.may {f0 f1 : Int} {n : Nat} {cap : Int} (h : host_Check.may f0 f1 n cap = true) : 0 ≤ f1 ∧ f1 ≤ cap ∧ n ≤ 64 := by
  unfold host_Check.may at h
  simp only [Bool.or_eq_true, Bool.and_eq_true, decide_eq_true_eq] at h
  omega
set_option maxRecDepth 100000 in
set_option maxHeartbeats 2000000 in
theorem host_Crash.good (A0_0 : Option Addr) (c0_0 : Nat) (l0_0 : List (List Int)) (A0_1 : Option Addr) (c0_1 : Nat) (l0_1 : List (S55)) (a0_2 : Int) (A1 : Option Addr) (c1 : Nat) (l1 : List Bool) (w : World) (hr0_0 : Kd.C (Kd.slice 5 (Kd.int .u8)) w A0_0 l0_0.length l0_0) (hc0_0 : l0_0.length ≤ c0_0) (hr0_1 : Kd.C k55 w A0_1 l0_1.length l0_1) (hc0_1 : l0_1.length ≤ c0_1) (hr1 : Kd.C Kd.bool w A1 l1.length l1) (hc : host_Check.chk l0_0 l0_1 a0_2 = 0) :
    Calls Try.prog 18 #[.agg #[.slice A0_0 l0_0.length c0_0, .slice A0_1 l0_1.length c0_1, .int .i64 a0_2], .slice A1 l1.length c1] w fun e w' => ∃ v0 us, e = .returned (.tuple #[.agg #[v0, .slice none 0 0, .int .i64 a0_2], .int .i64 0]) ∧
      w'.ownsRow w.heap.size 26 1 v0 (host_Crash.run l0_0 l0_1 l1 l0_1.length).length us ∧ Nest (Kd.int .u8) 5 w' w.heap.size us (host_Crash.run l0_0 l0_1 l1 l0_1.length) ∧ Below w.heap.size w w' := by
  have hval := host_Crash.valid hc
  have HCH := Aside0.mk (fun W hW => host_Check.calls A0_0 c0_0 l0_0 A0_1 c0_1 l0_1 a0_2 0 W (Kd.C_below hr0_0 hW) hc0_0 (Kd.C_below hr0_1 hW) hc0_1 (by unfold host_Check.f; rw [hc]))
  have HCL := Aside0.mk (fun W hW => host_Clone.strong A0_0 c0_0 l0_0 A0_1 c0_1 l0_1 a0_2 W (Kd.C_below hr0_0 hW) (Kd.C_below hr0_1 hW) (by omega) (by omega) (fun x hx => by rw [hval.2.2.2.1 x hx]; omega) (fun a ha => by have := host_Crash.may (hval.2.2.2.2.2 a ha); omega))
  have HK := Aside0.mk hr1
  have HVAL := Aside0.mk hval
  have HB := Aside0.mk (below_alloc (below_alloc (Below.refl w.heap.size w) (.cells #[.slice A0_0 l0_0.length c0_0, .slice A0_1 l0_1.length c0_1, .int .i64 a0_2] 30)) (.cells #[.slice none 0 0, .slice none 0 0, .int .i64 0] 30))
  have hz := hb_new (w.alloc (.cells #[.slice A0_0 l0_0.length c0_0, .slice A0_1 l0_1.length c0_1, .int .i64 a0_2] 30)) #[.slice none 0 0, .slice none 0 0, .int .i64 0] 30
  rw [show (w.alloc (.cells #[.slice A0_0 l0_0.length c0_0, .slice A0_1 l0_1.length c0_1, .int .i64 a0_2] 30)).heap.size = w.heap.size + 1 by simp] at hz
  have HZ := Aside0.mk hz
  have HX := Aside0.mk (show ((w.alloc (.cells #[.slice A0_0 l0_0.length c0_0, .slice A0_1 l0_1.length c0_1, .int .i64 a0_2] 30)).alloc (.cells #[.slice none 0 0, .slice none 0 0, .int .i64 0] 30)).heap[w.heap.size]? = some (.cells #[.slice A0_0 l0_0.length c0_0, .slice A0_1 l0_1.length c0_1, .int .i64 a0_2] 30 (0, 0)) from (Below.heap_alloc _ _ _ (by simp)).trans (hb_new w _ _))
  clear hr0_0 hr0_1 hc0_0 hc0_1 hc hz hval hr1
  go_enter Try.func18, Try.ntmps18
  go_wp2_with (go_at_call 20; refine (HCH.out _ HB.out).mono ?_; rintro e w1 ⟨rfl, hb⟩; have HB1 := Aside0.mk (below_step HB.out hb); have HZ1 := Aside0.mk (blk_below HZ.out hb); have HX1 := Aside0.mk (blk_below HX.out hb); clear hb; have y0 := hb_cell HX1.out 0; have y1 := hb_cell HX1.out 1; have y2 := hb_cell HX1.out 2; simp at y0 y1 y2)
  go_wp2_with (go_at_call 40; refine (HCL.out _ HB1.out).mono ?_; rintro e w2 ⟨v0, v1, us, vs, rfl, o0, o1, nst, hb⟩; have HB2 := Aside0.mk (below_step HB1.out hb); have HZ2 := Aside0.mk (blk_below HZ1.out hb); have HX2 := Aside0.mk (blk_below HX1.out hb); clear hb y0 y1 y2; have y0 := hb_cell HX2.out 0; have y1 := hb_cell HX2.out 1; have y2 := hb_cell HX2.out 2; simp at y0 y1 y2; have f0 := hb_free HX2.out 0; have f1 := hb_free HX2.out 1; have f2 := hb_free HX2.out 2; obtain ⟨B0, k0, rfl⟩ := own_slice o0; obtain ⟨B1, k1, rfl⟩ := own_slice o1; have O0 := Aside0.mk o0; have O1 := Aside0.mk o1; have NST := Aside0.mk nst; clear o0 o1 nst)
  obtain ⟨W3, hW3, q0, r0, r1, r2, hoth, hbl⟩ := set3 HX2.out (.slice B0 l0_0.length k0) (.slice B1 l0_1.length k1) (.int .i64 a0_2)
  rw [← hW3]
  have hbl3 := hbl w HB2.out (Nat.le_refl _)
  have hinv : host_Crash.Inv w (.slice B1 l0_1.length k1) a0_2 vs l0_0 l0_1 l1 0 W3 := by
    have n0 : ∀ k, (Value.slice B0 l0_0.length k0).ownBlock = some k → k ≠ w.heap.size := fun k hk e => by
      obtain ⟨cs, hc⟩ := own_typed O0.out k hk
      rw [e, HX2.out] at hc
      simp at hc
    have n1 : ∀ k, (Value.slice B1 l0_1.length k1).ownBlock = some k → k ≠ w.heap.size := fun k hk e => by
      obtain ⟨cs, hc⟩ := own_typed O1.out k hk
      rw [e, HX2.out] at hc
      simp at hc
    have hle : w.heap.size ≤ w1.heap.size := HB1.out.size
    refine ⟨B0, k0, us, ⟨q0, own_less (own_move O0.out fun k hk => hoth k (n0 k hk)) hle, ?_, hbl3, Nat.le_refl _⟩, own_less (own_move O1.out fun k hk => hoth k (n1 k hk)) hle, by rw [hoth _ (by omega)]; exact HZ2.out⟩
    simp only [List.drop_zero]
    exact (NST.out.step fun v hv k hk => hoth k (fun e => NST.out.typed HX2.out (by decide) hv hk e)).lower hle
  have HLEN := Aside0.mk (show vs.length = l0_1.length by have := NST.out.len; have h2 := O0.out.1; simp at this; omega)
  have HINV := Aside0.mk hinv
  have hmaxk := Kd.C_max HK.out
  have hmax2 := HVAL.out.2.2.2.2.1
  clear hW3 q0 hbl hbl3 hoth hinv y0 y1 y2 f0 f1 f2 O0 O1 NST HX2 HZ2 HB2 HX1 HZ1 HB1 HX HZ HB HCH HCL r0 r1 r2
  go_loopw [20] (fun v wr => ∃ i : Nat, i ≤ l0_1.length ∧ v = .int .i64 i ∧ Aside0 (host_Crash.Inv w (.slice B1 l0_1.length k1) a0_2 vs l0_0 l0_1 l1 i wr)) (fun v _ => l0_1.length - (intOf v).toNat)
  case atStart => exact ⟨0, Nat.zero_le _, rfl, HINV⟩
  case round =>
    clear HINV
    obtain ⟨i, hi, rfl, HI⟩ := hrel
    by_cases hlt : i < l0_1.length
    · obtain ⟨B, k, us', own, oa, zb⟩ := HI.out
      obtain ⟨g, cap', hv, hg1, hg2⟩ := oa.form (by omega)
      injection hv with e1 e2 e3
      subst e1 e3
      have hd : vs.drop i = vs[i]'(by rw [HLEN.out]; exact hlt) :: vs.drop (i + 1) := List.drop_eq_getElem_cons _
      generalize vs[i]'(by rw [HLEN.out]; exact hlt) = d at hd
      have hv1 : vs[i]? = some d := by
        have := congrArg (·[0]?) hd
        simpa using this
      have hcell3 : ∀ q u, ([Value.int .i64 l0_1[i].f0, .int .i64 l0_1[i].f1, d] : List Value)[q]? = some u → wr.cell? ⟨g, i * 3 + q, none⟩ = some u := by
        intro q u hq
        have hql : q < 3 := by have := (List.getElem?_eq_some_iff.1 hq).1; simpa using this
        have e4 := acells_at l0_1 vs i _ _ (List.getElem?_eq_getElem hlt) hv1
        have := oa.cells (g := g) rfl (i * 3 + q) u (by
          rw [← e4, List.getElem?_take, if_pos hql, List.getElem?_drop] at hq
          exact hq)
        rwa [add_plain] at this
      have hx0 := hcell3 0 _ rfl
      have hx1 := hcell3 1 _ rfl
      have hx2 := hcell3 2 _ rfl
      rw [Nat.add_zero] at hx0
      have hf2 : (l0_1.map (·.f2)).drop i = l0_1[i].f2 :: (l0_1.map (·.f2)).drop (i + 1) := by
        rw [List.drop_eq_getElem_cons (by simpa using hlt)]
        simp
      have hmay := host_Crash.may (HVAL.out.2.2.2.2.2 _ (List.getElem_mem hlt))
      have hcap := HVAL.out.2.1
      obtain ⟨Ad, cd, hdv⟩ : ∃ A c, d = .slice A l0_1[i].f2.length c := by
        have h2 := own
        rw [hd, hf2] at h2
        exact h2.slice
      subst hdv
      have hdo : ∀ W', Below wr.heap.size wr W' → Calls Try.prog 41 #[.pointer (some ⟨w.heap.size, 0, none⟩), .agg #[.int .i64 l0_1[i].f0, .int .i64 l0_1[i].f1, .slice Ad l0_1[i].f2.length cd]] W' fun e w' => e = .returned (.tuple #[]) ∧ host_Crash.Done w w.heap.size (.slice B (host_Crash.run l0_0 l0_1 l1 i).length k) (.slice (some ⟨g, 0, none⟩) l0_1.length k1) a0_2 (vs.drop (i + 1)) (host_Crash.doS (host_Crash.run l0_0 l0_1 l1 i) l0_1[i]) ((l0_1.map (·.f2)).drop (i + 1)) W' w' := fun W' hb => by
        have h2 := own.below hb
        rw [hd, hf2] at h2
        exact host_Crash.doc w W' _ _ _ _ _ _ _ _ _ _ _ h2 hmay.1 (by omega)
      have hon : ∀ W' W1, Below wr.heap.size wr W' → l1.getD i false = true → host_Crash.Done w w.heap.size (.slice B (host_Crash.run l0_0 l0_1 l1 i).length k) (.slice (some ⟨g, 0, none⟩) l0_1.length k1) a0_2 (vs.drop (i + 1)) (host_Crash.doS (host_Crash.run l0_0 l0_1 l1 i) l0_1[i]) ((l0_1.map (·.f2)).drop (i + 1)) W' W1 → host_Crash.Inv w (.slice (some ⟨g, 0, none⟩) l0_1.length k1) a0_2 vs l0_0 l0_1 l1 (i + 1) W1 := fun W' W1 hb hk hdn =>
        host_Crash.Inv.on (own.below hb) (pw_own_below oa hb) (blk_below zb hb) hlt hk hdn
      have HDO := Aside0.mk hdo
      have HON := Aside0.mk hon
      have HOFF := Aside0.mk (fun W' (hb : Below wr.heap.size wr W') hk => (HI.out.below hb).off hlt HLEN.out hk)
      have HAL := Aside0.mk (fun o => below_alloc (Below.refl wr.heap.size wr) o)
      have HKE := Aside0.mk (fun W' (hb : Below w.heap.size w W') => Kd.C_below HK.out hb)
      have HBW := Aside0.mk own.2.2.2.1
      clear own oa zb hd hv1 hcell3 hf2 hmay hcap hdo hon
      by_cases hk : i < l1.length
      · have hkc : ∃ ad, A1 = some ad ∧ ∀ o, (wr.alloc o).cell? (ad.add i) = some (.bool l1[i]) := by
          obtain ⟨ad, e, hc⟩ := HK.out.2.2 (by omega)
          refine ⟨ad, e, fun o => ?_⟩
          obtain ⟨c, _, hK', hu⟩ := hc i _ (List.getElem?_eq_getElem hk)
          have hK2 : c = [Value.bool l1[i]] := hK'
          subst hK2
          have := hu 0 _ rfl
          simp only [Kd.bool, Kd.scalar, Nat.mul_one, Nat.add_zero] at this
          exact pw_cell_below (below_step HBW.out (HAL.out o)) this
        obtain ⟨ad, rfl, hkc⟩ := hkc
        have hge : l1.getD i false = l1[i] := by rw [List.getD_eq_getElem?_getD, List.getElem?_eq_getElem hk]; rfl
        have HGE := Aside0.mk hge
        clear hge
        generalize l1[i] = b at hkc HGE
        cases b with
        | true =>
          go_wp2_with (go_at_call 41; refine (HDO.out _ (HAL.out _)).mono ?_; rintro e w4 ⟨rfl, hdn⟩; have HN := Aside0.mk (HON.out _ _ (HAL.out _) HGE.out hdn); clear hdn hkc hx0 hx1 hx2)
          go_roundw
          case rel => exact ⟨i + 1, by omega, by go_num, HN⟩
          case measure => simp [intOf]; omega
        | false =>
          go_wp2
          go_roundw
          case rel => exact ⟨i + 1, by omega, by go_num, ⟨HOFF.out _ (HAL.out _) HGE.out⟩⟩
          case measure => simp [intOf]; omega
      · have HGE := Aside0.mk (show l1.getD i false = false by rw [List.getD_eq_getElem?_getD, List.getElem?_eq_none (by omega)]; rfl)
        have hkb : decide (i < l1.length) = false := decide_eq_false hk
        clear hk
        go_wp2
        go_roundw
        case rel => exact ⟨i + 1, by omega, by go_num, ⟨HOFF.out _ (HAL.out _) HGE.out⟩⟩
        case measure => simp [intOf]; omega
    · obtain rfl : i = l0_1.length := by omega
      obtain ⟨B, k, us', own, oa, zb⟩ := HI.out
      have HOWN := Aside0.mk own
      have HZB := Aside0.mk zb
      have y0 := hb_cell own.1 0
      have y1 := hb_cell own.1 1
      have y2 := hb_cell own.1 2
      simp at y0 y1 y2
      have f1 := hb_free own.1 1
      have z0 := hb_cell zb 0
      have z1 := hb_cell zb 1
      have z2 := hb_cell zb 2
      simp at z0 z1 z2
      have g0 := hb_free zb 0
      have g1 := hb_free zb 1
      have g2 := hb_free zb 2
      clear own oa zb HI
      go_wp2
      clear z0 z1 z2 g0 g1 g2 y0 y1 y2 f1
      obtain ⟨b1, o0, nst, bel, hg⟩ := HOWN.out
      have hn0 : ∀ q, (Value.slice B (host_Crash.run l0_0 l0_1 l1 l0_1.length).length k).ownBlock = some q → q ≠ w.heap.size ∧ q ≠ w.heap.size + 1 := fun q hq => by
        obtain ⟨cs, hc⟩ := own_typed o0 q hq
        constructor <;> rintro rfl
        · rw [hc] at b1; simp at b1
        · rw [HZB.out] at hc; simp at hc
      have hnn : ∀ v ∈ us' ++ vs.drop l0_1.length, ∀ q, v.ownBlock = some q → q ≠ w.heap.size ∧ q ≠ w.heap.size + 1 := fun v hv q hq => ⟨nst.typed b1 (by decide) hv hq, nst.typed HZB.out (by decide) hv hq⟩
      have hz1 : (wr.setCell ⟨w.heap.size, 1, none⟩ (.slice none 0 0)).heap[w.heap.size + 1]? = some (.cells #[.slice none 0 0, .slice none 0 0, .int .i64 0] 30 (0, 0)) := (hb_keep _ _ _ (by omega)).trans HZB.out
      obtain ⟨W4, hW4, q0, r0, r1, r2, hoth, hbl⟩ := set3 hz1 (.slice B (host_Crash.run l0_0 l0_1 l1 l0_1.length).length k) (.slice none 0 0) (.int .i64 a0_2)
      rw [← hW4]
      have hmv : ∀ q, q ≠ w.heap.size ∧ q ≠ w.heap.size + 1 → W4.heap[q]? = wr.heap[q]? := fun q hq => (hoth q hq.2).trans (Below.heap_setCell _ _ _ _ hq.1)
      have hfin : W4.ownsRow w.heap.size 26 1 (.slice B (host_Crash.run l0_0 l0_1 l1 l0_1.length).length k) (host_Crash.run l0_0 l0_1 l1 l0_1.length).length us' ∧ Nest (Kd.int .u8) 5 W4 w.heap.size us' (host_Crash.run l0_0 l0_1 l1 l0_1.length) ∧ Below w.heap.size w W4 := by
        refine ⟨own_move o0 fun q hq => hmv q (hn0 q hq), ?_, hbl w (below_set bel (Nat.le_refl _)) (by omega)⟩
        have := (nst.step fun v hv q hq => hmv q (hnn v hv q hq)).left (by have := o0.1; omega)
        exact this
      have HFIN := Aside0.mk hfin
      clear hfin hmv hn0 hnn hz1 hoth hbl b1 o0 nst bel hg hW4 q0
      exact bodyPost_ret (v := .tuple #[.agg #[.slice B (host_Crash.run l0_0 l0_1 l1 l0_1.length).length k, .slice none 0 0, .int .i64 a0_2], .int .i64 0]) (by simp [results, Try.results18, go_sem, r0, r1, r2]) rfl ⟨_, us', rfl, HFIN.out⟩
theorem host_Crash.calls (A0_0 : Option Addr) (c0_0 : Nat) (l0_0 : List (List Int)) (A0_1 : Option Addr) (c0_1 : Nat) (l0_1 : List (S55)) (a0_2 : Int) (A1 : Option Addr) (c1 : Nat) (l1 : List Bool) (r1 : List (List Int)) (r2 : List (S55)) (r3 : Int) (r4 : Int) (w : World) (hr0_0 : Kd.C (Kd.slice 5 (Kd.int .u8)) w A0_0 l0_0.length l0_0) (hc0_0 : l0_0.length ≤ c0_0) (hr0_1 : Kd.C k55 w A0_1 l0_1.length l0_1) (hc0_1 : l0_1.length ≤ c0_1) (hr1 : Kd.C Kd.bool w A1 l1.length l1) (hc1 : l1.length ≤ c1) (h : host_Crash.f l0_0 l0_1 a0_2 l1 = some (r1, r2, r3, r4)) :
    Calls Try.prog 18 #[.agg #[.slice A0_0 l0_0.length c0_0, .slice A0_1 l0_1.length c0_1, .int .i64 a0_2], .slice A1 l1.length c1] w fun e w' => ∃ v0_ v1_ : Value, e = .returned (.tuple #[.agg #[v0_, v1_, .int .i64 r3], .int .i64 r4]) ∧ Kd.S (Kd.slice 5 (Kd.int .u8)) 26 w' w.heap.size (fun _ => True) v0_ r1 ∧ Kd.S k55 55 w' w.heap.size (fun _ => True) v1_ r2 ∧ Below w.heap.size w w' := by
  unfold host_Crash.f at h
  have h := Option.some.inj h
  by_cases hc : host_Check.chk l0_0 l0_1 a0_2 = 0
  · rw [if_pos hc] at h
    simp only [Prod.mk.injEq] at h
    obtain ⟨rfl, rfl, rfl, rfl⟩ := h
    refine (host_Crash.good A0_0 c0_0 l0_0 A0_1 c0_1 l0_1 a0_2 A1 c1 l1 w hr0_0 hc0_0 hr0_1 hc0_1 hr1 hc).mono ?_
    rintro e w' ⟨v0, us, rfl, o0, nst, bel⟩
    have hl : us.length = (host_Crash.run l0_0 l0_1 l1 l0_1.length).length := nst.len
    exact ⟨v0, _, rfl, nst.asS rfl (by rw [hl]; exact o0) (by decide), Kd.S_nil _ _ _ _ _, bel⟩
  · have h9 : host_Check.chk l0_0 l0_1 a0_2 = 9 := by
      unfold host_Check.chk at hc ⊢
      split
      · rfl
      · rename_i hn
        rw [if_neg hn] at hc
        exact absurd rfl hc
    rw [if_neg hc] at h
    simp only [Prod.mk.injEq] at h
    obtain ⟨rfl, rfl, rfl, rfl⟩ := h
    refine (host_Crash.bad A0_0 c0_0 l0_0 A0_1 c0_1 l0_1 a0_2 A1 c1 l1 w hr0_0 hc0_0 hr0_1 hc0_1 h9).mono ?_
    rintro e w' ⟨rfl, bel⟩
    exact ⟨_, _, rfl, Kd.S_nil _ _ _ _ _, Kd.S_nil _ _ _ _ _, bel⟩

theorem bits_Mul64.low (n : Nat) (hn : n < 18446744073709551616) : ∃ b : Nat, Go.bits .and .u64 (n : Int) 4294967295 = (b : Int) ∧ b < 4294967296 := by
  refine ⟨n &&& 4294967295, (bits_nat .u64 64 (by decide) (fun n h0 h1 => Pl.u64w h0 (by simpa using h1)) n 4294967295 (by simpa using hn) (by decide)).1, ?_⟩
  have := @Nat.and_le_right n 4294967295
  omega
set_option maxRecDepth 100000 in
theorem bits_Mul64.one (n : Nat) (w : World) (hn : n < 18446744073709551616) : Calls Try.prog 57 #[.int .u64 1, .int .u64 (n : Int)] w fun e w' => e = .returned (.tuple #[.int .u64 0, .int .u64 (n : Int)]) ∧ w' = w := by
  have e1 : Go.bits .and .u64 1 4294967295 = 1 := by decide
  have e2 : Go.bits .and .u64 0 4294967295 = 0 := by decide
  obtain ⟨b, hb, hb2⟩ := bits_Mul64.low n hn
  have e3 : IntKind.u64.wrap ((b : Int)) = b := Pl.u64w (by omega) (by omega)
  have e4 : (b : Int) / 4294967296 = 0 := by omega
  have e5 : IntKind.u64.wrap 0 = 0 := by decide
  have e6 : IntKind.u64.wrap ((n : Int) / 4294967296) = (n : Int) / 4294967296 := Pl.u64w (by omega) (by omega)
  have e7 : (n : Int) / 4294967296 / 4294967296 = 0 := by omega
  have e8 : IntKind.u64.wrap (n : Int) = n := Pl.u64w (by omega) (by omega)
  clear hn hb2
  go_enter Try.func57, Try.ntmps57
  go_wp2
  go_ret2
  exact ⟨rfl, rfl⟩
set_option maxRecDepth 100000 in
theorem bits_Mul.one (n : Nat) (w : World) (hn : n < 18446744073709551616) : Calls Try.prog 50 #[.int .u64 1, .int .u64 (n : Int)] w fun e w' => e = .returned (.tuple #[.int .u64 0, .int .u64 (n : Int)]) ∧ w' = w := by
  have e8 : IntKind.u64.wrap (n : Int) = n := Pl.u64w (by omega) (by omega)
  have H := Aside0.mk (fun w => bits_Mul64.one n w hn)
  clear hn
  go_enter Try.func50, Try.ntmps50
  go_wp2_with (go_at_call 57; refine (H.out _).mono ?_; rintro e w1 ⟨rfl, rfl⟩)
  go_ret2
  exact ⟨rfl, rfl⟩

theorem slices_Repeat_bool.fill (x z : Value) (n k m : Nat) (h : k + m ≤ n) (hm : m ≤ k) : splice (List.replicate k x ++ List.replicate (n - k) z) k (List.replicate m x) = List.replicate (k + m) x ++ List.replicate (n - (k + m)) z := by
  unfold splice
  rw [List.take_left' (by simp), List.drop_append, List.drop_of_length_le (by simp), List.nil_append]
  simp only [List.length_replicate, List.drop_replicate, Nat.add_sub_cancel_left]
  rw [← List.append_assoc, List.replicate_append_replicate]
  congr 2
  omega
set_option maxRecDepth 100000 in
set_option maxHeartbeats 1000000 in
theorem slices_Repeat_bool.one (x : Value) (hx1 : x.oneCell' = true) (ad : Addr) (c : Nat) (n : Nat) (w : World) (hx : w.cell? ad = some x) (hn : n * 1 ≤ 140737488355328) :
    Calls Try.prog 39 #[.slice (some ad) 1 c, .int .i64 (n : Int)] w fun e w' => ∃ v, e = .returned v ∧ w'.ownsRow w.heap.size 4 1 v n (List.replicate n x) ∧ Below w.heap.size w w' := by
  have hinfo : (Try.prog.info? 4).map (fun i => (i.zero, i.size, i.bytes)) = some (some (.bool false), 1, 1) := by kernel_rfl
  have hmk := fun W => make_cap (P := Try.prog) Try.underlying41 hinfo rfl (n : Int) (n : Int) n n rfl rfl (Nat.le_refl _) (by omega) (by omega) W
  have hsz : (Try.prog.info? 4).map (·.size) = some 1 := by
    obtain ⟨i0, hi, hh⟩ := Option.map_eq_some_iff.1 hinfo
    rw [hi]
    simp only [Prod.mk.injEq] at hh
    simp [hh.2.1]
  have hcutA := fun (k : Nat) (h : k ≤ n) (W : World) => run_slice_l (P := Try.prog) W 41 (some ⟨w.heap.size, 0, none⟩) n n
  obtain ⟨i0, hi0, hh0⟩ := Option.map_eq_some_iff.1 hinfo
  have hi1 : i0.size = 1 := by
    simp only [Prod.mk.injEq] at hh0
    exact hh0.2.1
  have hto : ∀ (k : Nat), k ≤ n → ∀ W : World, (Instr.slice 41 (.slice (some ⟨w.heap.size, 0, none⟩) n n) none (some (.int .i64 (k : Int))) none).run Try.prog W = .ok (.slice (some ⟨w.heap.size, 0, none⟩) k n) W := fun k hk W => by
    have := cut_to (P := Try.prog) 41 4 .i64 Try.underlying41 hi0 (some ⟨w.heap.size, 0, none⟩) n n (k : Int) (by omega) (by omega) (Nat.le_refl _) W
    simpa using this
  have hfrom : ∀ (k : Nat), k < n → ∀ W : World, (Instr.slice 41 (.slice (some ⟨w.heap.size, 0, none⟩) n n) (some (.int .i64 (k : Int))) none none).run Try.prog W = .ok (.slice (some ⟨w.heap.size, k, none⟩) (n - k) (n - k)) W := fun k hk W => by
    have hel : Try.prog.elem 41 = 4 := by simp [Program.elem, Try.underlying41]
    have hu : Try.prog.underlying 41 = some (.slice (Try.prog.elem 41)) := by rw [hel]; exact Try.underlying41
    rw [run_slice_l W 41 (some ⟨w.heap.size, 0, none⟩) n n hu .i64 (k : Int) (by omega) (by omega), hel]
    simp [sizeOf, typeInfo, hi0, hi1, sliced, Result.andThen, show ¬ n = k by omega, Addr.add]
    intro h
    omega
  have HTO := Aside0.mk hto
  have HFROM := Aside0.mk hfrom
  have HSZ := Aside0.mk hsz
  have HB := Aside0.mk (below_alloc (Below.refl w.heap.size w) (.cells (madeCells #[.bool false] n) 4))
  have HG := Aside0.mk (hb_new w (madeCells #[.bool false] n) 4)
  have HX := Aside0.mk (pw_cell_below HB.out hx)
  have hcells : madeCells #[.bool false] n = (List.replicate n (.bool false : Value)).toArray := by
    apply Array.ext'
    rw [toList_madeCells_one]
  have HCE := Aside0.mk hcells
  have HM := Aside0.mk (fun w => bits_Mul.one n w (by omega))
  have e8 : IntKind.u64.wrap (n : Int) = n := Pl.u64w (by omega) (by omega)
  have e9 : wrap64 (n : Int) = n := Pl.w64 (by omega) (by omega)
  have hn2 : n ≤ 140737488355328 := by omega
  have hn3 : ¬ ((n : Int) > 9223372036854775807) := by omega
  have HCELL := Aside0.mk (show ∀ (j : Nat) v, (List.replicate (min n 1) x)[j]? = some v → (w.alloc (.cells (madeCells #[.bool false] n) 4)).cell? (ad.add j) = some v from fun j v hv => by
    have hj := (List.getElem?_eq_some_iff.1 hv).1
    have hj0 : j = 0 := by
      simp at hj
      omega
    subst hj0
    have hv2 : v = x := by
      have := (List.getElem?_eq_some_iff.1 hv).2
      simpa using this.symm
    subst hv2
    simpa [Addr.add] using HX.out)
  clear hinfo hsz hi0 hh0 hi1 hto hfrom hx hcells hcutA
  go_enter Try.func39, Try.ntmps39
  go_wp2_with (first | (go_at_call 50; refine (HM.out _).mono ?_; rintro e w1 ⟨rfl, hw⟩; obtain rfl : w = w1 := hw.symm) | (go_loud (refine wpList_copy_splice rfl (.tmp 31) (.tmp 32) 41 41 rfl 4 Try.underlying41 HSZ.out (some ⟨w.heap.size, 0, none⟩) (some ad) n n 1 c rfl rfl w.heap.size 0 (List.replicate n (.bool false : Value)) 4 (by rw [← HCE.out]; exact HG.out) (List.replicate (min n 1) x) (List.length_replicate.trans (Nat.min_comm n 1)) (fun _ => ⟨rfl, ad, rfl, HCELL.out⟩) (by simp only [List.length_replicate]; omega) (fun v hv => by rw [(List.mem_replicate.1 hv).2]; exact hx1) w.heap.size w HB.out (Nat.le_refl _) ?_); intro w2 hg2 hb2))
  have hrow : w2.heap[w.heap.size]? = some (.cells (List.replicate (min n 1) x ++ List.replicate (n - min n 1) (.bool false : Value)).toArray 4 (0, 0)) := by
    have h2 : splice (List.replicate n (.bool false : Value)) 0 (List.replicate (min n 1) x) = List.replicate (min n 1) x ++ List.replicate (n - min n 1) (.bool false : Value) := by
      unfold splice
      simp
    rw [← h2]
    exact hg2.out
  have HROW := Aside0.mk hrow
  have HB2 := Aside0.mk hb2
  clear hg2 hb2 hrow HG HX HB e8
  go_loopw [8] (fun v wr => ∃ k : Nat, k ≤ n ∧ (0 < n → 0 < k) ∧ v = .int .i64 k ∧ Aside0 (wr.heap[w.heap.size]? = some (.cells (List.replicate k x ++ List.replicate (n - k) (.bool false : Value)).toArray 4 (0, 0)) ∧ Below w.heap.size w wr)) (fun v _ => n - (intOf v).toNat)
  case atStart => exact ⟨min n 1, by omega, by omega, rfl, ⟨HROW.out, HB2.out⟩⟩
  case round =>
    clear HROW HB2
    obtain ⟨k, hk, hk0, rfl, HI⟩ := hrel
    by_cases hlt : k < n
    · have hcutF := HFROM.out k hlt
      have hcutT := HTO.out k hk
      go_wp2
      refine plan_regionW [(0, .pure), (1, .pure), (2, .pure), (3, .pure), (4, .pure), (5, .pure), (6, .pure), (7, .last), (8, .pure), (9, .pure)] [7] (fun _ => True) (by kernel_rfl) (by kernel_rfl) (by decide) (fun _ _ _ _ _ h => h) (fun w_ hb_ => trivial) ?_
      intro w3 hbw3 hSw3
      simp only [planOps, List.getElem?_toArray, List.getElem?_cons_zero, List.getElem?_cons_succ, List.cons_append, List.nil_append, Act.put, List.setIfInBounds_toArray, List.set_cons_succ, List.set_cons_zero]
      have HB3 := Aside0.mk (below_step HI.out.2 hbw3)
      have HR3 := Aside0.mk (blk_below HI.out.1 hbw3)
      clear hbw3 hSw3
      refine plan_pure _ rfl (fun w' => by go_simp; rfl) ?_
      simp only [planOps, List.getElem?_toArray, List.getElem?_cons_zero, List.getElem?_cons_succ, List.cons_append, List.nil_append, Act.put, List.setIfInBounds_toArray, List.set_cons_succ, List.set_cons_zero]
      refine plan_pure _ rfl (fun w' => by go_simp; rfl) ?_
      simp only [planOps, List.getElem?_toArray, List.getElem?_cons_zero, List.getElem?_cons_succ, List.cons_append, List.nil_append, Act.put, List.setIfInBounds_toArray, List.set_cons_succ, List.set_cons_zero]
      refine plan_pure _ rfl (fun w' => by go_simp; rfl) ?_
      simp only [planOps, List.getElem?_toArray, List.getElem?_cons_zero, List.getElem?_cons_succ, List.cons_append, List.nil_append, Act.put, List.setIfInBounds_toArray, List.set_cons_succ, List.set_cons_zero]
      refine plan_pure (.slice (some ⟨w.heap.size, k, none⟩) (n - k) (n - k)) rfl (fun w' => by go_simp) ?_
      simp only [planOps, List.getElem?_toArray, List.getElem?_cons_zero, List.getElem?_cons_succ, List.cons_append, List.nil_append, Act.put, List.setIfInBounds_toArray, List.set_cons_succ, List.set_cons_zero]
      refine plan_pure _ rfl (fun w' => by go_simp; rfl) ?_
      simp only [planOps, List.getElem?_toArray, List.getElem?_cons_zero, List.getElem?_cons_succ, List.cons_append, List.nil_append, Act.put, List.setIfInBounds_toArray, List.set_cons_succ, List.set_cons_zero]
      refine plan_pure _ rfl (fun w' => by go_simp; rfl) ?_
      simp only [planOps, List.getElem?_toArray, List.getElem?_cons_zero, List.getElem?_cons_succ, List.cons_append, List.nil_append, Act.put, List.setIfInBounds_toArray, List.set_cons_succ, List.set_cons_zero]
      refine plan_pure (.slice (some ⟨w.heap.size, 0, none⟩) k n) rfl (fun w' => by go_simp) ?_
      simp only [planOps, List.getElem?_toArray, List.getElem?_cons_zero, List.getElem?_cons_succ, List.cons_append, List.nil_append, Act.put, List.setIfInBounds_toArray, List.set_cons_succ, List.set_cons_zero]
      refine plan_lastK fun K hK => step_copy_splice rfl (.tmp 41) (.tmp 44) 41 41 rfl 4 Try.underlying41 HSZ.out (some ⟨w.heap.size, k, none⟩) (some ⟨w.heap.size, 0, none⟩) (n - k) (n - k) k n rfl rfl w.heap.size k (List.replicate k x ++ List.replicate (n - k) (.bool false : Value)) 4 HR3.out (List.replicate (min k (n - k)) x) (List.length_replicate) (fun _ => ⟨rfl, _, rfl, fun j v hv => ?_⟩) (by simp; omega) (fun v hv => by rw [(List.mem_replicate.1 hv).2]; exact hx1) w.heap.size w HB3.out (Nat.le_refl _) ?_
      · have hj := (List.getElem?_eq_some_iff.1 hv).1
        simp only [List.length_replicate] at hj
        have hv2 : v = x := by
          have := (List.getElem?_eq_some_iff.1 hv).2
          simpa using this.symm
        subst hv2
        rw [add_plain, hb_cell HR3.out j]
        rw [List.getElem?_toArray, List.getElem?_append_left (by simp; omega), List.getElem?_replicate, if_pos (by omega)]
      · intro w4 hg4 hb4
        refine hK _ _ ?_
        have hm : k + min k (n - k) ≤ n := by omega
        have hrow : w4.heap[w.heap.size]? = some (.cells (List.replicate (k + min k (n - k)) x ++ List.replicate (n - (k + min k (n - k))) (.bool false : Value)).toArray 4 (0, 0)) := by
          have := hg4.out
          rwa [slices_Repeat_bool.fill x _ n k _ hm (by omega)] at this
        have HROW := Aside0.mk hrow
        have HB4 := Aside0.mk hb4
        rw [show goInt (List.replicate (min k (n - k)) x).length = .int .i64 ((min k (n - k) : Nat) : Int) by rw [List.length_replicate]; rfl]
        obtain ⟨m, hm2⟩ : ∃ m, m = min k (n - k) := ⟨_, rfl⟩
        rw [← hm2] at HROW ⊢
        have HMM := Aside0.mk hm2
        have hs1 : k + m ≤ n := by omega
        clear hg4 hb4 hrow hm hm2
        simp only [planOps, List.getElem?_toArray, List.getElem?_cons_zero, List.getElem?_cons_succ, List.cons_append, List.nil_append, Act.put, List.setIfInBounds_toArray, List.set_cons_succ, List.set_cons_zero]
        have hw1 : IntKind.i64.wrap ((k : Int) + (m : Int)) = ((k + m : Nat) : Int) := IntWalk.i64_in _ (by omega) |>.trans (by omega)
        refine plan_pure _ rfl (fun w' => by go_simp; rfl) ?_
        simp only [planOps, List.getElem?_toArray, List.getElem?_cons_zero, List.getElem?_cons_succ, List.cons_append, List.nil_append, Act.put, List.setIfInBounds_toArray, List.set_cons_succ, List.set_cons_zero]
        refine plan_pure _ rfl (fun w' => by go_simp; rfl) ?_
        simp only [planOps, List.getElem?_toArray, List.getElem?_cons_zero, List.getElem?_cons_succ, List.cons_append, List.nil_append, Act.put, List.setIfInBounds_toArray, List.set_cons_succ, List.set_cons_zero]
        refine plan_nil ?_
        go_wp2
        go_roundw
        case rel => exact ⟨k + m, hs1, by omega, by go_num, ⟨HROW.out, HB4.out⟩⟩
        case measure =>
          have := HMM.out
          simp [intOf]
          omega
    · obtain rfl : k = n := by omega
      have hlt' : decide (k < k) = false := decide_eq_false hlt
      go_wp2
      go_ret
      refine ⟨_, rfl, ⟨by simp, .inr ⟨w.heap.size, k, _, rfl, Nat.le_refl _, HI.out.1, Nat.le_refl _, by unfold maxLen; omega, by simp, by simp⟩⟩, HI.out.2⟩
def host_Flush.f (l0_0 : List (List Int)) (l0_1 : List (S55)) (a0_2 : Int) : Option ((List (List Int)) × (List (S55)) × Int × Int) := if l0_1.length ≤ 140737488355328 then host_Crash.f l0_0 l0_1 a0_2 (List.replicate l0_1.length true) else none
set_option maxRecDepth 100000 in
theorem host_Flush.calls (A0_0 : Option Addr) (c0_0 : Nat) (l0_0 : List (List Int)) (A0_1 : Option Addr) (c0_1 : Nat) (l0_1 : List (S55)) (a0_2 : Int) (r1 : List (List Int)) (r2 : List (S55)) (r3 : Int) (r4 : Int) (w : World) (hr0_0 : Kd.C (Kd.slice 5 (Kd.int .u8)) w A0_0 l0_0.length l0_0) (hc0_0 : l0_0.length ≤ c0_0) (hr0_1 : Kd.C k55 w A0_1 l0_1.length l0_1) (hc0_1 : l0_1.length ≤ c0_1) (h : host_Flush.f l0_0 l0_1 a0_2 = some (r1, r2, r3, r4)) :
    Calls Try.prog 15 #[.agg #[.slice A0_0 l0_0.length c0_0, .slice A0_1 l0_1.length c0_1, .int .i64 a0_2]] w fun e w' => ∃ v0_ v1_ : Value, e = .returned (.tuple #[.agg #[v0_, v1_, .int .i64 r3], .int .i64 r4]) ∧ Kd.S (Kd.slice 5 (Kd.int .u8)) 26 w' w.heap.size (fun _ => True) v0_ r1 ∧ Kd.S k55 55 w' w.heap.size (fun _ => True) v1_ r2 ∧ Below w.heap.size w w' := by
  unfold host_Flush.f at h
  split at h
  case isFalse => cases h
  rename_i hg
  have HCR := Aside0.mk (fun W (hW : Below w.heap.size w W) A c (hk : Kd.C Kd.bool W A (List.replicate l0_1.length true).length (List.replicate l0_1.length true)) hc => host_Crash.calls A0_0 c0_0 l0_0 A0_1 c0_1 l0_1 a0_2 A c (List.replicate l0_1.length true) r1 r2 r3 r4 W (Kd.C_below hr0_0 hW) hc0_0 (Kd.C_below hr0_1 hW) hc0_1 hk hc h)
  have HRP := Aside0.mk (fun (ad : Addr) (c : Nat) (W : World) (hx : W.cell? ad = some (.bool true)) => slices_Repeat_bool.one (.bool true) rfl ad c l0_1.length W hx (by omega))
  have HB := Aside0.mk (below_alloc (below_alloc (Below.refl w.heap.size w) (.cells #[.slice A0_0 l0_0.length c0_0, .slice A0_1 l0_1.length c0_1, .int .i64 a0_2] 30)) (.cells #[.slice none 0 0, .slice none 0 0, .int .i64 0] 30))
  have hz := hb_new (w.alloc (.cells #[.slice A0_0 l0_0.length c0_0, .slice A0_1 l0_1.length c0_1, .int .i64 a0_2] 30)) #[.slice none 0 0, .slice none 0 0, .int .i64 0] 30
  rw [show (w.alloc (.cells #[.slice A0_0 l0_0.length c0_0, .slice A0_1 l0_1.length c0_1, .int .i64 a0_2] 30)).heap.size = w.heap.size + 1 by simp] at hz
  have HZ := Aside0.mk hz
  have HX := Aside0.mk (show ((w.alloc (.cells #[.slice A0_0 l0_0.length c0_0, .slice A0_1 l0_1.length c0_1, .int .i64 a0_2] 30)).alloc (.cells #[.slice none 0 0, .slice none 0 0, .int .i64 0] 30)).heap[w.heap.size]? = some (.cells #[.slice A0_0 l0_0.length c0_0, .slice A0_1 l0_1.length c0_1, .int .i64 a0_2] 30 (0, 0)) from (Below.heap_alloc _ _ _ (by simp)).trans (hb_new w _ _))
  clear hr0_0 hr0_1 hc0_0 hc0_1 hz h hg
  go_enter Try.func15, Try.ntmps15
  go_wp2
  refine plan_regionW [(0, .quiet), (2, .pure), (3, .quiet), (4, .pure), (1, .loud), (5, .loud), (6, .last), (7, .pure), (8, .pure), (9, .last), (10, .pure)] [6, 9] (fun W => W.heap[w.heap.size]? = some (.cells #[.slice A0_0 l0_0.length c0_0, .slice A0_1 l0_1.length c0_1, .int .i64 a0_2] 30 (0, 0))) (by kernel_rfl) (by kernel_rfl) (by decide) (fun _ _ _ _ _ h => h) (fun w_ hb_ => blk_below HX.out hb_) ?_
  intro w1 hbw1 hSw1
  simp only [planOps, List.getElem?_toArray, List.getElem?_cons_zero, List.getElem?_cons_succ, List.cons_append, List.nil_append, Act.put, List.setIfInBounds_toArray, List.set_cons_succ, List.set_cons_zero]
  have HX1 := Aside0.mk (blk_below HX.out hbw1)
  have HZ1 := Aside0.mk (blk_below HZ.out hbw1)
  have HB1 := Aside0.mk (below_step HB.out hbw1)
  clear hbw1 hSw1
  refine plan_quiet (.agg #[.slice A0_0 l0_0.length c0_0, .slice A0_1 l0_1.length c0_1, .int .i64 a0_2]) rfl (fun w' hS => by have x0 := hb_cell hS 0; have x1 := hb_cell hS 1; have x2 := hb_cell hS 2; simp at x0 x1 x2; clear hS; go_simp) ?_
  simp only [planOps, List.getElem?_toArray, List.getElem?_cons_zero, List.getElem?_cons_succ, List.cons_append, List.nil_append, Act.put, List.setIfInBounds_toArray, List.set_cons_succ, List.set_cons_zero]
  refine plan_pure _ rfl (fun w' => by go_simp; rfl) ?_
  simp only [planOps, List.getElem?_toArray, List.getElem?_cons_zero, List.getElem?_cons_succ, List.cons_append, List.nil_append, Act.put, List.setIfInBounds_toArray, List.set_cons_succ, List.set_cons_zero]
  refine plan_quiet _ rfl (fun w' hS => by have x0 := hb_cell (hS) 1; simp at x0; clear hS; go_simp; rfl) ?_
  simp only [planOps, List.getElem?_toArray, List.getElem?_cons_zero, List.getElem?_cons_succ, List.cons_append, List.nil_append, Act.put, List.setIfInBounds_toArray, List.set_cons_succ, List.set_cons_zero]
  refine plan_pure _ rfl (fun w' => by go_simp; rfl) ?_
  simp only [planOps, List.getElem?_toArray, List.getElem?_cons_zero, List.getElem?_cons_succ, List.cons_append, List.nil_append, Act.put, List.setIfInBounds_toArray, List.set_cons_succ, List.set_cons_zero]
  have hal := below_alloc (Below.refl w1.heap.size w1) (.cells #[.bool true] 4)
  refine plan_value (.slice (some ⟨w1.heap.size, 0, none⟩) 1 1) rfl (by go_simp) (blk_below HX1.out hal) ?_
  simp only [planOps, List.getElem?_toArray, List.getElem?_cons_zero, List.getElem?_cons_succ, List.cons_append, List.nil_append, Act.put, List.setIfInBounds_toArray, List.set_cons_succ, List.set_cons_zero]
  refine plan_call Try.func39 (by kernel_rfl) rfl #[.slice (some ⟨w1.heap.size, 0, none⟩) 1 1, .int .i64 (l0_1.length : Int)] rfl rfl (by simp [Act.eval]) ?_
  refine (HRP.out _ _ _ ((hb_cell (hb_new w1 #[.bool true] 4) 0))).mono ?_
  rintro e w2 ⟨vk, rfl, ok, hb2⟩
  have hb12 := below_step hal hb2
  refine ⟨vk, rfl, blk_below HX1.out hb12, ?_⟩
  have HZ2 := Aside0.mk (blk_below HZ1.out hb12)
  have HB2 := Aside0.mk (below_step HB1.out hb12)
  have hR : Kd.R Kd.bool 4 w2 (w1.alloc (.cells #[.bool true] 4)).heap.size (fun _ => True) vk (List.replicate l0_1.length true) := Kd.R_of_own (by rw [List.length_replicate, show encs Value.bool (List.replicate l0_1.length true) = List.replicate l0_1.length (Value.bool true) by simp [encs]]; exact ok) (fun _ _ => trivial)
  obtain ⟨Ak, ck, hvk, hck, hC⟩ := Kd.R_reads hR
  subst hvk
  have HC := Aside0.mk hC
  have HCK := Aside0.mk hck
  clear hal hb2 hb12 ok hR hC hck HX1 HZ1 HB1
  simp only [planOps, List.getElem?_toArray, List.getElem?_cons_zero, List.getElem?_cons_succ, List.cons_append, List.nil_append, Act.put, List.setIfInBounds_toArray, List.set_cons_succ, List.set_cons_zero]
  refine plan_callL Try.func18 (by kernel_rfl) rfl #[.agg #[.slice A0_0 l0_0.length c0_0, .slice A0_1 l0_1.length c0_1, .int .i64 a0_2], .slice Ak (List.replicate l0_1.length true).length ck] rfl rfl (by simp [Act.eval]) ?_
  refine (HCR.out w2 HB2.out Ak ck HC.out HCK.out).mono ?_
  rintro e w3 ⟨v0, v1, rfl, s0, s1, hb3⟩
  refine ⟨_, rfl, ?_⟩
  obtain ⟨B0, k0, rfl⟩ := Kd.S_slice s0
  obtain ⟨B1, k1, rfl⟩ := Kd.S_slice s1
  have HS0 := Aside0.mk s0
  have HS1 := Aside0.mk s1
  have HZ3 := Aside0.mk (blk_below HZ2.out hb3)
  have HB3 := Aside0.mk (below_step HB2.out hb3)
  have HLE := Aside0.mk HB2.out.size
  clear s0 s1 hb3
  simp only [planOps, List.getElem?_toArray, List.getElem?_cons_zero, List.getElem?_cons_succ, List.cons_append, List.nil_append, Act.put, List.setIfInBounds_toArray, List.set_cons_succ, List.set_cons_zero]
  refine plan_pure _ rfl (fun w' => by go_simp; rfl) ?_
  simp only [planOps, List.getElem?_toArray, List.getElem?_cons_zero, List.getElem?_cons_succ, List.cons_append, List.nil_append, Act.put, List.setIfInBounds_toArray, List.set_cons_succ, List.set_cons_zero]
  refine plan_pure _ rfl (fun w' => by go_simp; rfl) ?_
  simp only [planOps, List.getElem?_toArray, List.getElem?_cons_zero, List.getElem?_cons_succ, List.cons_append, List.nil_append, Act.put, List.setIfInBounds_toArray, List.set_cons_succ, List.set_cons_zero]
  have x0 := hb_cell HZ3.out 0
  have x1 := hb_cell HZ3.out 1
  have x2 := hb_cell HZ3.out 2
  simp at x0 x1 x2
  have f0 := hb_free HZ3.out 0
  have f1 := hb_free HZ3.out 1
  have f2 := hb_free HZ3.out 2
  refine plan_skip rfl rfl (by go_simp; rfl) ?_
  refine plan_pure _ rfl (fun w' => by go_simp; rfl) ?_
  refine plan_nil ?_
  obtain ⟨W4, hW4, q0, y0, y1, y2, hoth, hbl⟩ := set3 HZ3.out (.slice B0 r1.length k0) (.slice B1 r2.length k1) (.int .i64 r3)
  have hfin : Kd.S (Kd.slice 5 (Kd.int .u8)) 26 W4 w.heap.size (fun _ => True) (.slice B0 r1.length k0) r1 ∧ Kd.S k55 55 W4 w.heap.size (fun _ => True) (.slice B1 r2.length k1) r2 ∧ Below w.heap.size w W4 := by
    refine ⟨Kd.S_mono (Kd.S_step (Kd.S_types (Kd.S_lower HS0.out HLE.out) HZ3.out (by decide)) (fun k hk _ => hoth k hk.2)) (fun _ _ => trivial), Kd.S_mono (Kd.S_step (Kd.S_types (Kd.S_lower HS1.out HLE.out) HZ3.out (by decide)) (fun k hk _ => hoth k hk.2)) (fun _ _ => trivial), hbl w HB3.out (by omega)⟩
  have HFIN := Aside0.mk hfin
  clear hfin hoth hbl q0 x0 x1 x2 f0 f1 f2
  rw [← hW4]
  clear hW4
  go_wp2
  exact bodyPost_ret (v := .tuple #[.agg #[.slice B0 r1.length k0, .slice B1 r2.length k1, .int .i64 r3], .int .i64 r4]) (by simp [results, Try.results15, go_sem, y0, y1, y2]) rfl ⟨_, _, rfl, HFIN.out⟩

/-- The length behind acts. -/
def host_Read.sizeGo : Int → List S55 → Int
  | n, [] => n
  | n, a :: as_ => host_Read.sizeGo (if a.f0 = 2 then a.f1 else n) as_
theorem host_Read.sizeGo_snoc (n : Int) (l : List S55) (a : S55) : host_Read.sizeGo n (l ++ [a]) = if a.f0 = 2 then a.f1 else host_Read.sizeGo n l := by
  induction l generalizing n with
  | nil => rfl
  | cons b l ih => exact ih _
/-- The cells of an act that is read. -/
theorem host_Read.act {w : World} {A : Option Addr} {l : List S55} (hr : Kd.C k55 w A l.length l) (i : Nat) (hi : i < l.length) : ∃ ad B c, A = some ad ∧ w.cell? (ad.add (i * 3)) = some (.int .i64 l[i].f0) ∧ w.cell? ⟨(ad.add (i * 3)).block, (ad.add (i * 3)).off + 1, none⟩ = some (.int .i64 l[i].f1) ∧ w.cell? ⟨(ad.add (i * 3)).block, (ad.add (i * 3)).off + 2, none⟩ = some (.slice B l[i].f2.length c) ∧ l[i].f2.length ≤ c ∧ Kd.C (Kd.int .u8) w B l[i].f2.length l[i].f2 := by
  obtain ⟨ad, B, c, e, h0, h1, h2, h3, h4⟩ := at_T55 hr (i : Int) (by omega) (by omega)
  have er : rd_T55 l (i : Int) = l[i] := by
    unfold rd_T55
    rw [Int.toNat_natCast, List.getD_eq_getElem?_getD, List.getElem?_eq_getElem hi]
    rfl
  rw [er] at h0 h1 h2 h3 h4
  rw [Int.toNat_natCast] at h0 h1 h2
  exact ⟨ad, B, c, e, h0, h1, h2, h3, h4⟩
set_option maxRecDepth 100000 in
theorem host_Read.size (A0_0 : Option Addr) (n0 c0_0 : Nat) (A0_1 : Option Addr) (c0_1 : Nat) (l0_1 : List S55) (a0_2 : Int) (w : World) (hr0_1 : Kd.C k55 w A0_1 l0_1.length l0_1) :
    Calls Try.prog 35 #[.agg #[.slice A0_0 n0 c0_0, .slice A0_1 l0_1.length c0_1, .int .i64 a0_2]] w fun e w' => e = .returned (.int .i64 (host_Read.sizeGo (n0 : Int) l0_1)) ∧ Below w.heap.size w w' := by
  have hmax := Kd.C_max hr0_1
  have HR := Aside0.mk hr0_1
  have HB := Aside0.mk (below_alloc (Below.refl w.heap.size w) (.cells #[.slice A0_0 n0 c0_0, .slice A0_1 l0_1.length c0_1, .int .i64 a0_2] 30))
  clear hr0_1
  go_enter Try.func35, Try.ntmps35
  go_wp2
  go_loopw [3, 12] (fun n v wr => ∃ i : Nat, i ≤ l0_1.length ∧ v = .int .i64 i ∧ n = .int .i64 (host_Read.sizeGo (n0 : Int) (l0_1.take i)) ∧ Aside0 (Below w.heap.size w wr)) (fun _ v _ => l0_1.length - (intOf v).toNat)
  case atStart => exact ⟨0, Nat.zero_le _, rfl, rfl, HB⟩
  case round =>
    clear HB
    obtain ⟨i, hi, rfl, rfl, HI⟩ := hrel
    by_cases hlt : i < l0_1.length
    · obtain ⟨ad, B, c, rfl, h0, h1, h2, _, _⟩ := host_Read.act (Kd.C_below HR.out HI.out) i hlt
      have hsn := host_Read.sizeGo_snoc (n0 : Int) (l0_1.take i) l0_1[i]
      rw [← List.take_succ_eq_append_getElem hlt] at hsn
      have HSN := Aside0.mk hsn
      have HAL := Aside0.mk (fun o => below_step HI.out (below_alloc (Below.refl wr.heap.size wr) o))
      clear hsn
      generalize l0_1[i].f0 = y0 at h0 HSN
      generalize l0_1[i].f1 = y1 at h1 HSN
      generalize l0_1[i].f2.length = y2 at h2
      by_cases hq : y0 = 2
      · subst hq
        go_wp2
        go_roundw
        case rel => exact ⟨i + 1, by omega, by go_num, by rw [HSN.out]; rfl, ⟨HAL.out _⟩⟩
        case measure => simp [intOf]; omega
      · have hqb : (y0 == 2) = false := beq_eq_false_iff_ne.2 hq
        have HQ := Aside0.mk hq
        clear hq
        go_wp2
        go_roundw
        case rel => exact ⟨i + 1, by omega, by go_num, by rw [HSN.out, if_neg HQ.out], ⟨HAL.out _⟩⟩
        case measure => simp [intOf]; omega
    · obtain rfl : i = l0_1.length := by omega
      go_wp2
      go_ret
      exact ⟨by rw [List.take_length]; rfl, HI.out⟩
def zeros64' : List Int := List.replicate 64 0
/-- What a sector becomes: is it there, and what it has. -/
def host_Read.step (at_ : Int) (s : Bool × List Int) (a : S55) : Bool × List Int :=
  if a.f0 = 2 then (decide (at_ < a.f1), if at_ < a.f1 ∧ s.1 = true then s.2 else zeros64') else if a.f1 = at_ ∧ s.1 = true then (s.1, a.f2) else s
def host_Read.go (at_ : Int) (s : Bool × List Int) (l : List S55) : Bool × List Int := l.foldl (host_Read.step at_) s
def host_Read.f (l0_0 : List (List Int)) (l0_1 : List (S55)) (a0_2 : Int) (a1 : Int) : Option (List Int × Int) :=
  some (if host_Check.chk l0_0 l0_1 a0_2 ≠ 0 then ([], 9) else if a1 < 0 ∨ host_Read.sizeGo (l0_0.length : Int) l0_1 ≤ a1 then ([], 4) else
    ((host_Read.go a1 (decide (a1 < (l0_0.length : Int)), if a1 < (l0_0.length : Int) then l0_0.getD a1.toNat [] else zeros64') l0_1).2, 0))
theorem host_Read.clear {w : World} {g : Nat} {cur : List Value} (hg : w.heap[g]? = some (.cells cur.toArray 5 (0, 0))) (hl : cur.length = 64) (ty : TypeId) :
    (Builtin.clear_ #[26] ty #[.slice (some ⟨g, 0, none⟩) 64 64]).run Try.prog w = .ok (.tuple #[]) (w.setRow g (encs (Value.int .u8) zeros64').toArray) := by
  have he : encs (Value.int .u8) zeros64' = List.replicate 64 (Value.int .u8 0) := by simp [encs, zeros64']
  rw [he]
  have hz : (Builtin.zeroCells #[Value.int .u8 0] 64).toList = List.replicate 64 (Value.int .u8 0) := by kernel_rfl
  have hrun := run_storeCells_from (P := Try.prog) g 5 (List.replicate 64 (Value.int .u8 0)) 0 cur.toArray w hg (by simp [hl]) (fun v hv => by rw [(List.mem_replicate.1 hv).2]; rfl)
  have hzv : (zeroValue 5).run Try.prog w = .ok (.int .u8 0) w := by kernel_rfl
  unfold Builtin.clear_
  simp only [List.getElem?_toArray, List.getElem?_cons_zero, Sem.run_bind, run_underlying Try.underlying26, Result.andThen_ok, hzv]
  have e1 : (Int.toNat 64) = 64 := rfl
  rw [show (Value.int .u8 0).cells = #[.int .u8 0] from rfl]
  simp only [hz, hrun, Result.andThen_ok, Sem.run_pure]
  simp
theorem host_Read.go_snoc (at_ : Int) (s : Bool × List Int) (l : List S55) (a : S55) : host_Read.go at_ s (l ++ [a]) = host_Read.step at_ (host_Read.go at_ s l) a := by simp [host_Read.go]
theorem host_Read.encs_length (l : List Int) : (encs (Value.int .u8) l).length = l.length := by simp [encs]
theorem host_Read.row (W : World) (g base : Nat) (l : List Int) (hg : W.heap[g]? = some (.cells (encs (Value.int .u8) l).toArray 5 (0, 0))) (hb : base ≤ g) (hl : l.length = 64) : Kd.R (Kd.int .u8) 5 W base (fun _ => True) (.slice (some ⟨g, 0, none⟩) 64 64) l :=
  Kd.R_of_own (by rw [hl]; exact ⟨by simp [encs, hl], .inr ⟨g, 64, _, rfl, hb, hg, Nat.le_refl _, by unfold maxLen; omega, by simp [encs, hl], List.take_of_length_le (by simp [encs, hl])⟩⟩) (fun _ _ => trivial)
/-- The cells of octets that are read. -/
theorem host_Read.src {w : World} {A : Option Addr} {n : Nat} {l : List Int} (h : Kd.C (Kd.int .u8) w A n l) (hn : 0 < n) : ∃ ad, A = some ad ∧ ∀ (j : Nat) v, (encs (Value.int .u8) l)[j]? = some v → w.cell? (ad.add j) = some v := by
  obtain ⟨ad, e, hc⟩ := C_int h hn
  refine ⟨ad, e, fun j v hv => ?_⟩
  have hj := (List.getElem?_eq_some_iff.1 hv).1
  rw [host_Read.encs_length] at hj
  have hl := h.1
  rw [hc j (by omega)]
  have h2 : (encs (Value.int .u8) l)[j]? = some (.int .u8 (l.getD j 0)) := by
    simp [encs, List.getD_eq_getElem?_getD, List.getElem?_eq_getElem hj]
  rw [h2] at hv
  exact hv
theorem host_Read.splice0 {α : Type} (L cs : List α) (h : cs.length = L.length) : splice L 0 cs = cs := by
  unfold splice
  simp [h]
set_option maxRecDepth 100000 in
theorem host_Read.bad (A0_0 : Option Addr) (c0_0 : Nat) (l0_0 : List (List Int)) (A0_1 : Option Addr) (c0_1 : Nat) (l0_1 : List (S55)) (a0_2 : Int) (a1 : Int) (w : World) (hr0_0 : Kd.C (Kd.slice 5 (Kd.int .u8)) w A0_0 l0_0.length l0_0) (hc0_0 : l0_0.length ≤ c0_0) (hr0_1 : Kd.C k55 w A0_1 l0_1.length l0_1) (hc0_1 : l0_1.length ≤ c0_1) (hc : host_Check.chk l0_0 l0_1 a0_2 = 9) :
    Calls Try.prog 16 #[.agg #[.slice A0_0 l0_0.length c0_0, .slice A0_1 l0_1.length c0_1, .int .i64 a0_2], .int .i64 a1] w fun e w' => e = .returned (.tuple #[.slice none 0 0, .int .i64 9]) ∧ Below w.heap.size w w' := by
  have HCH := Aside0.mk (fun W hW => host_Check.calls A0_0 c0_0 l0_0 A0_1 c0_1 l0_1 a0_2 9 W (Kd.C_below hr0_0 hW) hc0_0 (Kd.C_below hr0_1 hW) hc0_1 (by unfold host_Check.f; rw [hc]))
  have HB := Aside0.mk (below_alloc (Below.refl w.heap.size w) (.cells #[.slice A0_0 l0_0.length c0_0, .slice A0_1 l0_1.length c0_1, .int .i64 a0_2] 30))
  clear hr0_0 hr0_1 hc0_0 hc0_1 hc
  go_enter Try.func16, Try.ntmps16
  go_wp2_with (go_at_call 20; refine (HCH.out _ HB.out).mono ?_; rintro e w1 ⟨rfl, hb⟩; have HB1 := Aside0.mk (below_step HB.out hb); clear hb)
  go_ret2
  exact ⟨rfl, HB1.out⟩
set_option maxRecDepth 100000 in
theorem host_Read.off (A0_0 : Option Addr) (c0_0 : Nat) (l0_0 : List (List Int)) (A0_1 : Option Addr) (c0_1 : Nat) (l0_1 : List (S55)) (a0_2 : Int) (a1 : Int) (w : World) (hr0_0 : Kd.C (Kd.slice 5 (Kd.int .u8)) w A0_0 l0_0.length l0_0) (hc0_0 : l0_0.length ≤ c0_0) (hr0_1 : Kd.C k55 w A0_1 l0_1.length l0_1) (hc0_1 : l0_1.length ≤ c0_1) (hc : host_Check.chk l0_0 l0_1 a0_2 = 0) (ho : a1 < 0 ∨ host_Read.sizeGo (l0_0.length : Int) l0_1 ≤ a1) :
    Calls Try.prog 16 #[.agg #[.slice A0_0 l0_0.length c0_0, .slice A0_1 l0_1.length c0_1, .int .i64 a0_2], .int .i64 a1] w fun e w' => e = .returned (.tuple #[.slice none 0 0, .int .i64 4]) ∧ Below w.heap.size w w' := by
  have HCH := Aside0.mk (fun W hW => host_Check.calls A0_0 c0_0 l0_0 A0_1 c0_1 l0_1 a0_2 0 W (Kd.C_below hr0_0 hW) hc0_0 (Kd.C_below hr0_1 hW) hc0_1 (by unfold host_Check.f; rw [hc]))
  have HSZ := Aside0.mk (fun W (hW : Below w.heap.size w W) => host_Read.size A0_0 l0_0.length c0_0 A0_1 c0_1 l0_1 a0_2 W (Kd.C_below hr0_1 hW))
  have HB := Aside0.mk (below_alloc (Below.refl w.heap.size w) (.cells #[.slice A0_0 l0_0.length c0_0, .slice A0_1 l0_1.length c0_1, .int .i64 a0_2] 30))
  have HX := Aside0.mk (hb_new w #[.slice A0_0 l0_0.length c0_0, .slice A0_1 l0_1.length c0_1, .int .i64 a0_2] 30)
  clear hr0_0 hr0_1 hc0_0 hc0_1 hc
  generalize host_Read.sizeGo (l0_0.length : Int) l0_1 = sz at ho HSZ
  by_cases h0 : a1 < 0
  · have h0b : decide (a1 < 0) = true := decide_eq_true h0
    clear ho h0
    go_enter Try.func16, Try.ntmps16
    go_wp2_with (go_at_call 20; refine (HCH.out _ HB.out).mono ?_; rintro e w1 ⟨rfl, hb⟩; have HB1 := Aside0.mk (below_step HB.out hb); clear hb)
    go_ret2
    exact ⟨rfl, HB1.out⟩
  · have h0b : decide (a1 < 0) = false := decide_eq_false h0
    have h1b : decide (sz ≤ a1) = true := decide_eq_true (ho.resolve_left h0)
    clear ho h0
    go_enter Try.func16, Try.ntmps16
    go_wp2_with (first | (go_at_call 20; refine (HCH.out _ HB.out).mono ?_; rintro e w1 ⟨rfl, hb⟩; have HB1 := Aside0.mk (below_step HB.out hb); have HX1 := Aside0.mk (blk_below HX.out hb); have x0 := hb_cell HX1.out 0; have x1 := hb_cell HX1.out 1; have x2 := hb_cell HX1.out 2; simp at x0 x1 x2; clear hb) | (go_at_call 35; refine (HSZ.out _ HB1.out).mono ?_; rintro e w2 ⟨rfl, hb⟩; have HB2 := Aside0.mk (below_step HB1.out hb); clear hb))
    go_ret2
    exact ⟨rfl, HB2.out⟩

theorem host_Read.chk0 {ss : List (List Int)} {ws : List S55} {cap : Int} (h : host_Check.chk ss ws cap = 0) : (∀ x ∈ ss, x.length = 64) ∧ ∀ a ∈ ws, a.f0 ≠ 2 → a.f2.length = 64 := by
  unfold host_Check.chk at h
  split at h
  · omega
  · rename_i hn
    simp only [not_or, Int.not_lt, Bool.not_eq_true] at hn
    obtain ⟨h1, h2, h3, h4, h5, h6⟩ := hn
    refine ⟨fun x hx => ?_, fun a ha h0 => ?_⟩
    · have := List.any_eq_false.1 h4 x hx
      simp at this
      omega
    · have := List.any_eq_false.1 h6 a ha
      unfold host_Check.badA host_Check.may at this
      simp [h0] at this
      omega
theorem host_Read.step_len (at_ : Int) (s : Bool × List Int) (a : S55) (hs : s.2.length = 64) (ha : a.f0 ≠ 2 → a.f2.length = 64) : (host_Read.step at_ s a).2.length = 64 := by
  unfold host_Read.step
  by_cases h0 : a.f0 = 2
  · rw [if_pos h0]
    show (if _ then _ else _ : List Int).length = 64
    split
    · exact hs
    · simp [zeros64']
  · rw [if_neg h0]
    split
    · exact ha h0
    · exact hs
theorem host_Read.row_below {W W1 : World} {g : Nat} {l : List Int} (h : W.heap[g]? = some (.cells (encs (Value.int .u8) l).toArray 5 (0, 0))) (hb : Below W.heap.size W W1) : W1.heap[g]? = some (.cells (encs (Value.int .u8) l).toArray 5 (0, 0)) := blk_below h hb
theorem host_Read.zrow : madeCells #[.int .u8 0] 64 = (encs (Value.int .u8) zeros64').toArray := by
  apply Array.ext'
  rw [toList_madeCells_one]
  simp [encs, zeros64']
set_option maxRecDepth 100000 in
set_option maxHeartbeats 4000000 in
theorem host_Read.loop (A0_0 : Option Addr) (c0_0 : Nat) (l0_0 : List (List Int)) (A0_1 : Option Addr) (c0_1 : Nat) (l0_1 : List (S55)) (a0_2 : Int) (a1 : Int) (w : World) (hr0_0 : Kd.C (Kd.slice 5 (Kd.int .u8)) w A0_0 l0_0.length l0_0) (hc0_0 : l0_0.length ≤ c0_0) (hr0_1 : Kd.C k55 w A0_1 l0_1.length l0_1) (hc0_1 : l0_1.length ≤ c0_1) (hc : host_Check.chk l0_0 l0_1 a0_2 = 0) (ho1 : 0 ≤ a1) (ho2 : a1 < host_Read.sizeGo (l0_0.length : Int) l0_1) (th : Bool) (hth : th = decide (a1 < (l0_0.length : Int))) (s0 : List Int) (hs0 : s0 = if a1 < (l0_0.length : Int) then l0_0.getD a1.toNat [] else zeros64') :
    Calls Try.prog 16 #[.agg #[.slice A0_0 l0_0.length c0_0, .slice A0_1 l0_1.length c0_1, .int .i64 a0_2], .int .i64 a1] w fun e w' => ∃ v, e = .returned (.tuple #[v, .int .i64 0]) ∧ Kd.R (Kd.int .u8) 5 w' w.heap.size (fun _ => True) v (host_Read.go a1 (th, s0) l0_1).2 ∧ Below w.heap.size w w' := by
  have hv := host_Read.chk0 hc
  have hmax := Kd.C_max hr0_1
  have hmax0 := Kd.C_max hr0_0
  have HV := Aside0.mk hv
  have HR0 := Aside0.mk hr0_0
  have HR1 := Aside0.mk hr0_1
  have HCH := Aside0.mk (fun W hW => host_Check.calls A0_0 c0_0 l0_0 A0_1 c0_1 l0_1 a0_2 0 W (Kd.C_below hr0_0 hW) hc0_0 (Kd.C_below hr0_1 hW) hc0_1 (by unfold host_Check.f; rw [hc]))
  have HSZ := Aside0.mk (fun W (hW : Below w.heap.size w W) => host_Read.size A0_0 l0_0.length c0_0 A0_1 c0_1 l0_1 a0_2 W (Kd.C_below hr0_1 hW))
  have HB := Aside0.mk (below_alloc (Below.refl w.heap.size w) (.cells #[.slice A0_0 l0_0.length c0_0, .slice A0_1 l0_1.length c0_1, .int .i64 a0_2] 30))
  have HX := Aside0.mk (hb_new w #[.slice A0_0 l0_0.length c0_0, .slice A0_1 l0_1.length c0_1, .int .i64 a0_2] 30)
  have hmk : ∀ W : World, (Instr.makeSlice 26 (.int .i64 64) (.int .i64 64)).run Try.prog W = .ok (.slice (some ⟨W.heap.size, 0, none⟩) 64 64) (W.alloc (.cells (encs (Value.int .u8) zeros64').toArray 5)) := by rw [← host_Read.zrow]; exact print_make (P := Try.prog) 26 5 .u8 1 Try.underlying26 info5 (by omega) 64 (by omega)
  have hsz : (Try.prog.info? 5).map (·.size) = some 1 := by kernel_rfl
  have HS1 := Aside0.mk hsz
  obtain ⟨i, rfl⟩ := Pl.nat_of ho1
  have h0b : decide ((i : Int) < 0) = false := decide_eq_false (by omega)
  have HO2 := Aside0.mk ho2
  have HTH := Aside0.mk hth
  have HS0 := Aside0.mk hs0
  clear hr0_0 hr0_1 hc0_0 hc0_1 hc hv hsz ho1 hs0 hth
  generalize host_Read.sizeGo (l0_0.length : Int) l0_1 = sz at HO2 HSZ ho2
  have h1b : decide (sz ≤ (i : Int)) = false := decide_eq_false (by omega)
  clear ho2
  have hloop : ∀ (W : World) (g : Nat) (cur : List Int), True := fun _ _ _ => trivial
  by_cases hlt : i < l0_0.length
  · have hltb : decide (i < l0_0.length) = true := decide_eq_true hlt
    obtain ⟨ad, rfl, hcell⟩ := HR0.out.2.2 (by omega)
    obtain ⟨cs, hs, ⟨A', c', hcs, hle, hC⟩, hu⟩ := hcell i _ (List.getElem?_eq_getElem hlt)
    subst hcs
    have hu0 := hu 0 _ rfl
    have hx : w.cell? (ad.add i) = some (.slice A' l0_0[i].length c') := by simpa [Kd.slice, Kd.int, Kd.scalar] using hu0
    have h64 := HV.out.1 _ (List.getElem_mem hlt)
    have hs2 : s0 = l0_0[i] := by
      rw [HS0.out, if_pos (by omega), Int.toNat_natCast, List.getD_eq_getElem?_getD, List.getElem?_eq_getElem hlt]
      rfl
    have hth2 : th = true := by rw [HTH.out]; simpa using hlt
    have HTH2 := Aside0.mk hth2
    clear hth2
    rw [h64] at hx hC hle
    rw [← hs2] at hC h64
    have HX0 := Aside0.mk hx
    have HC0 := Aside0.mk hC
    have H64 := Aside0.mk h64
    clear hcell hs hu hu0 hx hC h64 hle hs2
    have HSRC := Aside0.mk (fun W (hW : Below w.heap.size w W) => host_Read.src (Kd.C_below HC0.out hW) (by omega))
    go_enter Try.func16, Try.ntmps16
    go_wp2_with (first | (go_at_call 20; refine (HCH.out _ HB.out).mono ?_; rintro e w1 ⟨rfl, hb⟩; have HB1 := Aside0.mk (below_step HB.out hb); have HX1 := Aside0.mk (blk_below HX.out hb); have x0 := hb_cell HX1.out 0; have x1 := hb_cell HX1.out 1; have x2 := hb_cell HX1.out 2; simp at x0 x1 x2; clear hb) | (go_at_call 35; refine (HSZ.out _ HB1.out).mono ?_; rintro e w2 ⟨rfl, hb⟩; clear x0 x1 x2; have HB2 := Aside0.mk (below_step HB1.out hb); have HX2 := Aside0.mk (blk_below HX1.out hb); have HAL := Aside0.mk (below_alloc (Below.refl w2.heap.size w2) (.cells (encs (Value.int .u8) zeros64').toArray 5)); have HB3 := Aside0.mk (below_step HB2.out HAL.out); have HX3 := Aside0.mk (blk_below HX2.out HAL.out); have HG3 := Aside0.mk (show (w2.alloc (.cells (encs (Value.int .u8) zeros64').toArray 5)).heap[w2.heap.size]? = some (.cells (encs (Value.int .u8) zeros64').toArray 5 (0, 0)) from hb_new w2 _ _); have HGB := Aside0.mk HB2.out.size; have x0 := hb_cell HX3.out 0; have x1 := hb_cell HX3.out 1; simp at x0 x1; clear hb ; have y1 := pw_cell_below HB3.out HX0.out) | ((refine wpList_copy_splice rfl (.tmp 32) (.tmp 37) 26 26 rfl 5 Try.underlying26 HS1.out (some ⟨w2.heap.size, 0, none⟩) A' 64 64 64 c' rfl rfl w2.heap.size 0 (encs (Value.int .u8) zeros64') 5 HG3.out (encs (Value.int .u8) s0) ((host_Read.encs_length s0).trans H64.out) (fun _ => ⟨rfl, HSRC.out _ HB3.out⟩) (by rw [host_Read.encs_length, host_Read.encs_length, H64.out]; decide) (fun v hv => by obtain ⟨q, _, rfl⟩ := List.mem_map.1 hv; rfl) w2.heap.size w2 HAL.out (Nat.le_refl _) ?_); intro w3 hg3 hb3; clear x0 x1; have HX4 := Aside0.mk (blk_below HX2.out hb3); have HB4 := Aside0.mk (below_step HB2.out hb3); have HG4 := Aside0.mk (show w3.heap[w2.heap.size]? = some (.cells (encs (Value.int .u8) s0).toArray 5 (0, 0)) by have := hg3.out; rwa [host_Read.splice0 _ _ (by rw [host_Read.encs_length, host_Read.encs_length, H64.out]; rfl)] at this); have x1 := hb_cell HX4.out 1; simp at x1; clear hg3 hb3))
    go_loopw [8, 42] (fun t v wr => ∃ j : Nat, j ≤ l0_1.length ∧ v = .int .i64 j ∧ t = .bool (host_Read.go i (th, s0) (l0_1.take j)).1 ∧ Aside0 ((host_Read.go i (th, s0) (l0_1.take j)).2.length = 64 ∧ wr.heap[w2.heap.size]? = some (.cells (encs (Value.int .u8) (host_Read.go i (th, s0) (l0_1.take j)).2).toArray 5 (0, 0)) ∧ Below w.heap.size w wr)) (fun _ v _ => l0_1.length - (intOf v).toNat)
    case atStart => exact ⟨0, Nat.zero_le _, rfl, by rw [HTH2.out]; rfl, ⟨H64.out, HG4.out, HB4.out⟩⟩
    case round =>
      clear HG4 HB4 x1 HX4
      obtain ⟨j, hj, rfl, rfl, HI⟩ := hrel
      by_cases hlt2 : j < l0_1.length
      · obtain ⟨ad2, B, c, rfl, h0, h1, h2, hle, hC⟩ := host_Read.act (Kd.C_below HR1.out HI.out.2.2) j hlt2
        have hsn := host_Read.go_snoc i (th, s0) (l0_1.take j) l0_1[j]
        rw [← List.take_succ_eq_append_getElem hlt2] at hsn
        have hd := HV.out.2 _ (List.getElem_mem hlt2)
        have hstl := host_Read.step_len i _ _ HI.out.1 hd
        rw [← hsn] at hstl
        have HSTL := Aside0.mk hstl
        have HSN := Aside0.mk hsn
        have HD := Aside0.mk hd
        have HC := Aside0.mk hC
        clear hsn hd hle hC hstl
        obtain ⟨st, hst⟩ : ∃ st, host_Read.go i (th, s0) (l0_1.take j) = st := ⟨_, rfl⟩
        obtain ⟨st', hst'⟩ : ∃ st', host_Read.go i (th, s0) (l0_1.take (j + 1)) = st' := ⟨_, rfl⟩
        rw [hst] at HI HSN ⊢
        rw [hst'] at HSN HSTL
        have HST' := Aside0.mk hst'
        clear hst hst'
        obtain ⟨tb, cur⟩ := st
        simp only at HI HSN ⊢
        generalize l0_1[j] = act at h0 h1 h2 HSN HD HC
        obtain ⟨y0, y1, y2⟩ := act
        simp only at h0 h1 h2 HSN HD HC
        have HAL2 := Aside0.mk (fun o => below_alloc (Below.refl wr.heap.size wr) o)
        have hclr := fun o ty => host_Read.clear (blk_below HI.out.2.1 (HAL2.out o)) (by rw [host_Read.encs_length]; exact HI.out.1) ty
        have HSET := Aside0.mk (fun o => (⟨setRow_heap _ _ _ _ _ _ (blk_below HI.out.2.1 (HAL2.out o)), below_row (below_step HI.out.2.2 (HAL2.out o)) HGB.out⟩ : ((wr.alloc o).setRow w2.heap.size (encs (Value.int .u8) zeros64').toArray).heap[w2.heap.size]? = some (.cells (encs (Value.int .u8) zeros64').toArray 5 (0, 0)) ∧ Below w.heap.size w ((wr.alloc o).setRow w2.heap.size (encs (Value.int .u8) zeros64').toArray)))
        have hrn : ∀ u : List Int, (u, u) = (u, u) := fun _ => rfl
        clear hrn
        by_cases hq : y0 = 2
        · subst hq
          by_cases hn : (i : Int) < y1
          · have hnb : decide ((i : Int) < y1) = true := decide_eq_true hn
            cases tb with
            | true =>
              have HST2 := Aside0.mk (show st' = (true, cur) by rw [HSN.out]; simp [host_Read.step, hn])
              clear hn
              go_wp2
              go_roundw
              case rel => exact ⟨j + 1, by omega, by go_num, by rw [HST'.out, HST2.out], ⟨by rw [HST'.out]; exact HSTL.out, by rw [HST'.out, HST2.out]; exact blk_below HI.out.2.1 (HAL2.out _), below_step HI.out.2.2 (HAL2.out _)⟩⟩
              case measure => simp [intOf]; omega
            | false =>
              have HST2 := Aside0.mk (show st' = (true, zeros64') by rw [HSN.out]; simp [host_Read.step, hn])
              clear hn
              go_wp2
              go_roundw
              case rel => exact ⟨j + 1, by omega, by go_num, by rw [HST'.out, HST2.out], ⟨by rw [HST'.out]; exact HSTL.out, by rw [HST'.out, HST2.out]; exact (HSET.out _).1, (HSET.out _).2⟩⟩
              case measure => simp [intOf]; omega
          · have hnb : decide ((i : Int) < y1) = false := decide_eq_false hn
            have HST2 := Aside0.mk (show st' = (false, zeros64') by rw [HSN.out]; simp [host_Read.step, hn])
            clear hn
            go_wp2
            go_roundw
            case rel => exact ⟨j + 1, by omega, by go_num, by rw [HST'.out, HST2.out], ⟨by rw [HST'.out]; exact HSTL.out, by rw [HST'.out, HST2.out]; exact (HSET.out _).1, (HSET.out _).2⟩⟩
            case measure => simp [intOf]; omega
        · have hqb : (y0 == 2) = false := beq_eq_false_iff_ne.2 hq
          have h64d := HD.out hq
          by_cases hn : y1 = (i : Int)
          · subst hn
            cases tb with
            | true =>
              have HST2 := Aside0.mk (show st' = (true, y2) by rw [HSN.out]; simp [host_Read.step, hq])
              rw [h64d] at h2 HC
              have HSRC2 := Aside0.mk (fun W (hW : Below wr.heap.size wr W) => host_Read.src (Kd.C_below HC.out hW) (by omega))
              have H64D := Aside0.mk h64d
              clear hq h64d hclr
              go_wp2_with ((refine wpList_copy_splice rfl (.tmp 70) (.tmp 72) 26 26 rfl 5 Try.underlying26 HS1.out (some ⟨w2.heap.size, 0, none⟩) B 64 64 64 c rfl rfl w2.heap.size 0 (encs (Value.int .u8) cur) 5 (blk_below HI.out.2.1 (HAL2.out _)) (encs (Value.int .u8) y2) ((host_Read.encs_length y2).trans H64D.out) (fun _ => ⟨rfl, HSRC2.out _ (HAL2.out _)⟩) (by rw [host_Read.encs_length, host_Read.encs_length, H64D.out, HI.out.1]; decide) (fun v hv => by obtain ⟨q, _, rfl⟩ := List.mem_map.1 hv; rfl) w.heap.size w (below_step HI.out.2.2 (HAL2.out _)) HGB.out ?_); intro w5 hg5 hb5; have HG5 := Aside0.mk (show w5.heap[w2.heap.size]? = some (.cells (encs (Value.int .u8) y2).toArray 5 (0, 0)) by have := hg5.out; rwa [host_Read.splice0 _ _ (by rw [host_Read.encs_length, host_Read.encs_length, H64D.out, HI.out.1])] at this); have HB5 := Aside0.mk hb5; clear hg5 hb5)
              go_roundw
              case rel => exact ⟨j + 1, by omega, by go_num, by rw [HST'.out, HST2.out], ⟨by rw [HST'.out]; exact HSTL.out, by rw [HST'.out, HST2.out]; exact HG5.out, HB5.out⟩⟩
              case measure => simp [intOf]; omega
            | false =>
              have HST2 := Aside0.mk (show st' = (false, cur) by rw [HSN.out]; simp [host_Read.step, hq])
              clear hq hclr
              go_wp2
              go_roundw
              case rel => exact ⟨j + 1, by omega, by go_num, by rw [HST'.out, HST2.out], ⟨by rw [HST'.out]; exact HSTL.out, by rw [HST'.out, HST2.out]; exact blk_below HI.out.2.1 (HAL2.out _), below_step HI.out.2.2 (HAL2.out _)⟩⟩
              case measure => simp [intOf]; omega
          · have hnb : (y1 == (i : Int)) = false := beq_eq_false_iff_ne.2 hn
            have HST2 := Aside0.mk (show st' = (tb, cur) by rw [HSN.out]; simp [host_Read.step, hq, hn])
            clear hq hn hclr
            go_wp2
            go_roundw
            case rel => exact ⟨j + 1, by omega, by go_num, by rw [HST'.out, HST2.out], ⟨by rw [HST'.out]; exact HSTL.out, by rw [HST'.out, HST2.out]; exact blk_below HI.out.2.1 (HAL2.out _), below_step HI.out.2.2 (HAL2.out _)⟩⟩
            case measure => simp [intOf]; omega
      · obtain rfl : j = l0_1.length := by omega
        have hi := HI.out
        rw [List.take_length] at hi
        have HFIN := Aside0.mk (host_Read.row _ _ _ _ hi.2.1 HGB.out hi.1)
        clear hi
        go_wp2
        go_ret2
        exact ⟨_, rfl, HFIN.out, HI.out.2.2⟩
  · have hltb : decide (i < l0_0.length) = false := decide_eq_false hlt
    have HTH2 := Aside0.mk (show th = false by rw [HTH.out]; simpa using hlt)
    have HS2 := Aside0.mk (show s0 = zeros64' by rw [HS0.out, if_neg (by omega)])
    have H64 := Aside0.mk (show s0.length = 64 by rw [HS2.out]; simp [zeros64'])
    clear hlt
    go_enter Try.func16, Try.ntmps16
    go_wp2_with (first | (go_at_call 20; refine (HCH.out _ HB.out).mono ?_; rintro e w1 ⟨rfl, hb⟩; have HB1 := Aside0.mk (below_step HB.out hb); have HX1 := Aside0.mk (blk_below HX.out hb); have x0 := hb_cell HX1.out 0; have x1 := hb_cell HX1.out 1; have x2 := hb_cell HX1.out 2; simp at x0 x1 x2; clear hb) | (go_at_call 35; refine (HSZ.out _ HB1.out).mono ?_; rintro e w2 ⟨rfl, hb⟩; clear x0 x1 x2; have HB2 := Aside0.mk (below_step HB1.out hb); have HX2 := Aside0.mk (blk_below HX1.out hb); have HAL := Aside0.mk (below_alloc (Below.refl w2.heap.size w2) (.cells (encs (Value.int .u8) zeros64').toArray 5)); have HB3 := Aside0.mk (below_step HB2.out HAL.out); have HX3 := Aside0.mk (blk_below HX2.out HAL.out); have HG3 := Aside0.mk (show (w2.alloc (.cells (encs (Value.int .u8) zeros64').toArray 5)).heap[w2.heap.size]? = some (.cells (encs (Value.int .u8) zeros64').toArray 5 (0, 0)) from hb_new w2 _ _); have HGB := Aside0.mk HB2.out.size; have x0 := hb_cell HX3.out 0; have x1 := hb_cell HX3.out 1; simp at x0 x1; clear hb ; have HG4 := Aside0.mk (show (w2.alloc (.cells (encs (Value.int .u8) zeros64').toArray 5)).heap[w2.heap.size]? = some (.cells (encs (Value.int .u8) s0).toArray 5 (0, 0)) by rw [HS2.out]; exact HG3.out); have HB4 := HB3; have HX4 := HX3))
    go_loopw [8, 42] (fun t v wr => ∃ j : Nat, j ≤ l0_1.length ∧ v = .int .i64 j ∧ t = .bool (host_Read.go i (th, s0) (l0_1.take j)).1 ∧ Aside0 ((host_Read.go i (th, s0) (l0_1.take j)).2.length = 64 ∧ wr.heap[w2.heap.size]? = some (.cells (encs (Value.int .u8) (host_Read.go i (th, s0) (l0_1.take j)).2).toArray 5 (0, 0)) ∧ Below w.heap.size w wr)) (fun _ v _ => l0_1.length - (intOf v).toNat)
    case atStart => exact ⟨0, Nat.zero_le _, rfl, by rw [HTH2.out]; rfl, ⟨H64.out, HG4.out, HB4.out⟩⟩
    case round =>
      clear HG4 HB4 x1 HX4
      obtain ⟨j, hj, rfl, rfl, HI⟩ := hrel
      by_cases hlt2 : j < l0_1.length
      · obtain ⟨ad2, B, c, rfl, h0, h1, h2, hle, hC⟩ := host_Read.act (Kd.C_below HR1.out HI.out.2.2) j hlt2
        have hsn := host_Read.go_snoc i (th, s0) (l0_1.take j) l0_1[j]
        rw [← List.take_succ_eq_append_getElem hlt2] at hsn
        have hd := HV.out.2 _ (List.getElem_mem hlt2)
        have hstl := host_Read.step_len i _ _ HI.out.1 hd
        rw [← hsn] at hstl
        have HSTL := Aside0.mk hstl
        have HSN := Aside0.mk hsn
        have HD := Aside0.mk hd
        have HC := Aside0.mk hC
        clear hsn hd hle hC hstl
        obtain ⟨st, hst⟩ : ∃ st, host_Read.go i (th, s0) (l0_1.take j) = st := ⟨_, rfl⟩
        obtain ⟨st', hst'⟩ : ∃ st', host_Read.go i (th, s0) (l0_1.take (j + 1)) = st' := ⟨_, rfl⟩
        rw [hst] at HI HSN ⊢
        rw [hst'] at HSN HSTL
        have HST' := Aside0.mk hst'
        clear hst hst'
        obtain ⟨tb, cur⟩ := st
        simp only at HI HSN ⊢
        generalize l0_1[j] = act at h0 h1 h2 HSN HD HC
        obtain ⟨y0, y1, y2⟩ := act
        simp only at h0 h1 h2 HSN HD HC
        have HAL2 := Aside0.mk (fun o => below_alloc (Below.refl wr.heap.size wr) o)
        have hclr := fun o ty => host_Read.clear (blk_below HI.out.2.1 (HAL2.out o)) (by rw [host_Read.encs_length]; exact HI.out.1) ty
        have HSET := Aside0.mk (fun o => (⟨setRow_heap _ _ _ _ _ _ (blk_below HI.out.2.1 (HAL2.out o)), below_row (below_step HI.out.2.2 (HAL2.out o)) HGB.out⟩ : ((wr.alloc o).setRow w2.heap.size (encs (Value.int .u8) zeros64').toArray).heap[w2.heap.size]? = some (.cells (encs (Value.int .u8) zeros64').toArray 5 (0, 0)) ∧ Below w.heap.size w ((wr.alloc o).setRow w2.heap.size (encs (Value.int .u8) zeros64').toArray)))
        have hrn : ∀ u : List Int, (u, u) = (u, u) := fun _ => rfl
        clear hrn
        by_cases hq : y0 = 2
        · subst hq
          by_cases hn : (i : Int) < y1
          · have hnb : decide ((i : Int) < y1) = true := decide_eq_true hn
            cases tb with
            | true =>
              have HST2 := Aside0.mk (show st' = (true, cur) by rw [HSN.out]; simp [host_Read.step, hn])
              clear hn
              go_wp2
              go_roundw
              case rel => exact ⟨j + 1, by omega, by go_num, by rw [HST'.out, HST2.out], ⟨by rw [HST'.out]; exact HSTL.out, by rw [HST'.out, HST2.out]; exact blk_below HI.out.2.1 (HAL2.out _), below_step HI.out.2.2 (HAL2.out _)⟩⟩
              case measure => simp [intOf]; omega
            | false =>
              have HST2 := Aside0.mk (show st' = (true, zeros64') by rw [HSN.out]; simp [host_Read.step, hn])
              clear hn
              go_wp2
              go_roundw
              case rel => exact ⟨j + 1, by omega, by go_num, by rw [HST'.out, HST2.out], ⟨by rw [HST'.out]; exact HSTL.out, by rw [HST'.out, HST2.out]; exact (HSET.out _).1, (HSET.out _).2⟩⟩
              case measure => simp [intOf]; omega
          · have hnb : decide ((i : Int) < y1) = false := decide_eq_false hn
            have HST2 := Aside0.mk (show st' = (false, zeros64') by rw [HSN.out]; simp [host_Read.step, hn])
            clear hn
            go_wp2
            go_roundw
            case rel => exact ⟨j + 1, by omega, by go_num, by rw [HST'.out, HST2.out], ⟨by rw [HST'.out]; exact HSTL.out, by rw [HST'.out, HST2.out]; exact (HSET.out _).1, (HSET.out _).2⟩⟩
            case measure => simp [intOf]; omega
        · have hqb : (y0 == 2) = false := beq_eq_false_iff_ne.2 hq
          have h64d := HD.out hq
          by_cases hn : y1 = (i : Int)
          · subst hn
            cases tb with
            | true =>
              have HST2 := Aside0.mk (show st' = (true, y2) by rw [HSN.out]; simp [host_Read.step, hq])
              rw [h64d] at h2 HC
              have HSRC2 := Aside0.mk (fun W (hW : Below wr.heap.size wr W) => host_Read.src (Kd.C_below HC.out hW) (by omega))
              have H64D := Aside0.mk h64d
              clear hq h64d hclr
              go_wp2_with ((refine wpList_copy_splice rfl (.tmp 70) (.tmp 72) 26 26 rfl 5 Try.underlying26 HS1.out (some ⟨w2.heap.size, 0, none⟩) B 64 64 64 c rfl rfl w2.heap.size 0 (encs (Value.int .u8) cur) 5 (blk_below HI.out.2.1 (HAL2.out _)) (encs (Value.int .u8) y2) ((host_Read.encs_length y2).trans H64D.out) (fun _ => ⟨rfl, HSRC2.out _ (HAL2.out _)⟩) (by rw [host_Read.encs_length, host_Read.encs_length, H64D.out, HI.out.1]; decide) (fun v hv => by obtain ⟨q, _, rfl⟩ := List.mem_map.1 hv; rfl) w.heap.size w (below_step HI.out.2.2 (HAL2.out _)) HGB.out ?_); intro w5 hg5 hb5; have HG5 := Aside0.mk (show w5.heap[w2.heap.size]? = some (.cells (encs (Value.int .u8) y2).toArray 5 (0, 0)) by have := hg5.out; rwa [host_Read.splice0 _ _ (by rw [host_Read.encs_length, host_Read.encs_length, H64D.out, HI.out.1])] at this); have HB5 := Aside0.mk hb5; clear hg5 hb5)
              go_roundw
              case rel => exact ⟨j + 1, by omega, by go_num, by rw [HST'.out, HST2.out], ⟨by rw [HST'.out]; exact HSTL.out, by rw [HST'.out, HST2.out]; exact HG5.out, HB5.out⟩⟩
              case measure => simp [intOf]; omega
            | false =>
              have HST2 := Aside0.mk (show st' = (false, cur) by rw [HSN.out]; simp [host_Read.step, hq])
              clear hq hclr
              go_wp2
              go_roundw
              case rel => exact ⟨j + 1, by omega, by go_num, by rw [HST'.out, HST2.out], ⟨by rw [HST'.out]; exact HSTL.out, by rw [HST'.out, HST2.out]; exact blk_below HI.out.2.1 (HAL2.out _), below_step HI.out.2.2 (HAL2.out _)⟩⟩
              case measure => simp [intOf]; omega
          · have hnb : (y1 == (i : Int)) = false := beq_eq_false_iff_ne.2 hn
            have HST2 := Aside0.mk (show st' = (tb, cur) by rw [HSN.out]; simp [host_Read.step, hq, hn])
            clear hq hn hclr
            go_wp2
            go_roundw
            case rel => exact ⟨j + 1, by omega, by go_num, by rw [HST'.out, HST2.out], ⟨by rw [HST'.out]; exact HSTL.out, by rw [HST'.out, HST2.out]; exact blk_below HI.out.2.1 (HAL2.out _), below_step HI.out.2.2 (HAL2.out _)⟩⟩
            case measure => simp [intOf]; omega
      · obtain rfl : j = l0_1.length := by omega
        have hi := HI.out
        rw [List.take_length] at hi
        have HFIN := Aside0.mk (host_Read.row _ _ _ _ hi.2.1 HGB.out hi.1)
        clear hi
        go_wp2
        go_ret2
        exact ⟨_, rfl, HFIN.out, HI.out.2.2⟩

theorem host_Read.calls (A0_0 : Option Addr) (c0_0 : Nat) (l0_0 : List (List Int)) (A0_1 : Option Addr) (c0_1 : Nat) (l0_1 : List (S55)) (a0_2 : Int) (a1 : Int) (r1 : List Int) (r2 : Int) (w : World) (hr0_0 : Kd.C (Kd.slice 5 (Kd.int .u8)) w A0_0 l0_0.length l0_0) (hc0_0 : l0_0.length ≤ c0_0) (hr0_1 : Kd.C k55 w A0_1 l0_1.length l0_1) (hc0_1 : l0_1.length ≤ c0_1) (h : host_Read.f l0_0 l0_1 a0_2 a1 = some (r1, r2)) :
    Calls Try.prog 16 #[.agg #[.slice A0_0 l0_0.length c0_0, .slice A0_1 l0_1.length c0_1, .int .i64 a0_2], .int .i64 a1] w fun e w' => ∃ v0_ : Value, e = .returned (.tuple #[v0_, .int .i64 r2]) ∧ Kd.R (Kd.int .u8) 5 w' w.heap.size (fun _ => True) v0_ r1 ∧ Below w.heap.size w w' := by
  unfold host_Read.f at h
  have h := Option.some.inj h
  by_cases hc : host_Check.chk l0_0 l0_1 a0_2 = 0
  · rw [if_neg (by simp [hc])] at h
    by_cases ho : a1 < 0 ∨ host_Read.sizeGo (l0_0.length : Int) l0_1 ≤ a1
    · rw [if_pos ho] at h
      simp only [Prod.mk.injEq] at h
      obtain ⟨rfl, rfl⟩ := h
      refine (host_Read.off A0_0 c0_0 l0_0 A0_1 c0_1 l0_1 a0_2 a1 w hr0_0 hc0_0 hr0_1 hc0_1 hc ho).mono ?_
      rintro e w' ⟨rfl, bel⟩
      exact ⟨_, rfl, Kd.R_nil _ _ _ _ _, bel⟩
    · rw [if_neg ho] at h
      simp only [Prod.mk.injEq] at h
      obtain ⟨rfl, rfl⟩ := h
      exact host_Read.loop A0_0 c0_0 l0_0 A0_1 c0_1 l0_1 a0_2 a1 w hr0_0 hc0_0 hr0_1 hc0_1 hc (by omega) (by omega) _ rfl _ rfl
  · have h9 : host_Check.chk l0_0 l0_1 a0_2 = 9 := by
      unfold host_Check.chk at hc ⊢
      split
      · rfl
      · rename_i hn
        rw [if_neg hn] at hc
        exact absurd rfl hc
    rw [if_pos (by simpa using hc)] at h
    simp only [Prod.mk.injEq] at h
    obtain ⟨rfl, rfl⟩ := h
    refine (host_Read.bad A0_0 c0_0 l0_0 A0_1 c0_1 l0_1 a0_2 a1 w hr0_0 hc0_0 hr0_1 hc0_1 h9).mono ?_
    rintro e w' ⟨rfl, bel⟩
    exact ⟨_, rfl, Kd.R_nil _ _ _ _ _, bel⟩

/-- What is told of the clone, once it has been stored. -/
def host_wait.At (w : World) (base : Nat) (l0 : List (List Int)) (l1 : List S55) (cap : Int) (acs us ws : List Value) (v0 v1 : Value) (W : World) : Prop :=
  W.ownsRow base 26 1 v0 l0.length us ∧ W.ownsRow base 55 3 v1 l1.length (acells l1 ws) ∧ Nest (Kd.int .u8) 5 W base (us ++ ws) (l0 ++ l1.map (·.f2)) ∧ Below w.heap.size w W ∧ w.heap.size + 3 ≤ W.heap.size ∧ (∀ v ∈ us ++ ws, ∀ k, v.ownBlock = some k → w.heap.size ≤ k) ∧
    W.heap[w.heap.size]? = some (.cells #[v0, v1, .int .i64 cap] 30 (0, 0)) ∧ W.heap[w.heap.size + 1]? = some (.cells acs.toArray 55 (0, 0)) ∧ W.heap[w.heap.size + 2]? = some (.cells #[.slice none 0 0, .slice none 0 0, .int .i64 0] 30 (0, 0)) ∧ (∀ k, v1.ownBlock = some k → w.heap.size + 3 ≤ k)
theorem host_wait.set {w w1 w2 : World} {base : Nat} {l0 : List (List Int)} {l1 : List S55} {cap : Int} {acs us ws : List Value} {v0 v1 x0 x1 x2 : Value} (o0 : w2.ownsRow w1.heap.size 26 1 v0 l0.length us) (o1 : w2.ownsRow w1.heap.size 55 3 v1 l1.length (acells l1 ws)) (nst : Nest (Kd.int .u8) 5 w2 w1.heap.size (us ++ ws) (l0 ++ l1.map (·.f2))) (hb : Below w.heap.size w w2)
    (h1 : w.heap.size + 3 ≤ w1.heap.size) (h12 : w1.heap.size ≤ w2.heap.size) (hbase : base ≤ w.heap.size) (hx : w2.heap[w.heap.size]? = some (.cells #[x0, x1, x2] 30 (0, 0))) (hy : w2.heap[w.heap.size + 1]? = some (.cells acs.toArray 55 (0, 0))) (hz : w2.heap[w.heap.size + 2]? = some (.cells #[.slice none 0 0, .slice none 0 0, .int .i64 0] 30 (0, 0))) :
    host_wait.At w base l0 l1 cap acs us ws v0 v1 (((w2.setCell ⟨w.heap.size, 0, none⟩ v0).setCell ⟨w.heap.size, 1, none⟩ v1).setCell ⟨w.heap.size, 2, none⟩ (.int .i64 cap)) := by
  obtain ⟨W3, hW3, q0, -, -, -, hoth, hbl⟩ := set3 hx v0 v1 (.int .i64 cap)
  rw [← hW3]
  have hne : ∀ k, w1.heap.size ≤ k → k ≠ w.heap.size := fun k hk => by omega
  refine ⟨own_less (own_move o0 fun k hk => hoth k (hne k (own_base o0 k hk))) (by omega), own_less (own_move o1 fun k hk => hoth k (hne k (own_base o1 k hk))) (by omega), (nst.step fun v hv k hk => hoth k (hne k (nst.lt hv hk).1)).lower (by omega), hbl w hb (Nat.le_refl _), ?_, fun v hv k hk => by have := (nst.lt hv hk).1; omega, q0, by rw [hoth _ (by omega)]; exact hy, by rw [hoth _ (by omega)]; exact hz, fun k hk => by have := own_base o1 k hk; omega⟩
  have := hW3
  subst hW3
  simp [World.setCell]
  omega
theorem host_wait.mid {w W w5 : World} {base : Nat} {l0 : List (List Int)} {l1 : List S55} {cap : Int} {acs us ws : List Value} {v0 v1 : Value} (h : host_wait.At w base l0 l1 cap acs us ws v0 v1 W) (hg : W.grownBy w5 v1.ownBlock) :
    w5.heap[w.heap.size]? = some (.cells #[v0, v1, .int .i64 cap] 30 (0, 0)) ∧ w5.heap[w.heap.size + 2]? = some (.cells #[.slice none 0 0, .slice none 0 0, .int .i64 0] 30 (0, 0)) := by
  obtain ⟨a1, a2, a3, a4, a5, a6, a7, a8, a9, a10⟩ := h
  have keep : ∀ (k t : Nat) cells, W.heap[k]? = some (Obj.cells cells t (0, 0)) → t ≠ 55 → w5.heap[k]? = W.heap[k]? := fun k t cells hk ht => hg.block k (Array.getElem?_eq_some_iff.1 hk).1 fun e => by
    obtain ⟨c2, hc2⟩ := own_typed a2 k e.symm
    rw [hk] at hc2
    simp at hc2
    exact ht hc2.2
  exact ⟨(keep _ _ _ a7 (by decide)).trans a7, (keep _ _ _ a9 (by decide)).trans a9⟩
/-- The act has been appended, and its slice stored. -/
theorem host_wait.app {w W w5 : World} {base : Nat} {l0 : List (List Int)} {l1 : List S55} {cap f0 f1 : Int} {acs us ws : List Value} {v0 v1 v2 dv : Value} {data : List Int} (h : host_wait.At w base l0 l1 cap acs us ws v0 v1 W) (hd : Kd.R (Kd.int .u8) 5 W base (fun _ => True) dv data) (hdl : ∀ k, dv.ownBlock = some k → k < w.heap.size)
    (hown : w5.ownsRow base 55 3 v2 (l1.length + 1) (acells l1 ws ++ [.int .i64 f0, .int .i64 f1, dv])) (hg : W.grownBy w5 v1.ownBlock) (hat : v2.ownBlock = v1.ownBlock ∨ ∃ b, v2.ownBlock = some b ∧ W.heap.size ≤ b) (hbase : base ≤ w.heap.size) :
    let W6 := w5.setCell ⟨w.heap.size, 1, none⟩ v2
    W6.heap[w.heap.size]? = some (.cells #[v0, v2, .int .i64 cap] 30 (0, 0)) ∧ W6.heap[w.heap.size + 2]? = some (.cells #[.slice none 0 0, .slice none 0 0, .int .i64 0] 30 (0, 0)) ∧ Below w.heap.size w W6 ∧
      W6.ownsRow base 26 1 v0 l0.length us ∧ W6.ownsRow base 55 3 v2 (l1.length + 1) (acells (l1 ++ [⟨f0, f1, data⟩]) (ws ++ [dv])) ∧ Nest (Kd.int .u8) 5 W6 base (us ++ (ws ++ [dv])) (l0 ++ (l1.map (·.f2) ++ [data])) := by
  obtain ⟨a1, a2, a3, a4, a5, a6, a7, a8, a9, a10⟩ := h
  have hb : Below w.heap.size w w5 := a4.grown hg a4.size fun k hk => by have := a10 k hk; omega
  have hl : us.length = l0.length := by have := a1.1; omega
  have hl2 : ws.length = l1.length := by have := a3.len; simp at this; omega
  have hv1 : ∀ k, v1.ownBlock = some k → ∃ cells, W.heap[k]? = some (.cells cells 55 (0, 0)) := own_typed a2
  have keep : ∀ (k t : Nat) cells, W.heap[k]? = some (Obj.cells cells t (0, 0)) → t ≠ 55 → w5.heap[k]? = W.heap[k]? := fun k t cells hk ht => hg.block k (Array.getElem?_eq_some_iff.1 hk).1 fun e => by
    obtain ⟨c2, hc2⟩ := hv1 k e.symm
    rw [hk] at hc2
    simp at hc2
    exact ht hc2.2
  have b7 : w5.heap[w.heap.size]? = some (.cells #[v0, v1, .int .i64 cap] 30 (0, 0)) := (keep _ _ _ a7 (by decide)).trans a7
  have b9 : w5.heap[w.heap.size + 2]? = some (.cells #[.slice none 0 0, .slice none 0 0, .int .i64 0] 30 (0, 0)) := (keep _ _ _ a9 (by decide)).trans a9
  have c0 : w5.ownsRow base 26 1 v0 l0.length us := own_move a1 fun k hk => by
    obtain ⟨cells, hc⟩ := own_typed a1 k hk
    exact keep k _ _ hc (by decide)
  have c2 : Nest (Kd.int .u8) 5 W base ((us ++ ws) ++ [dv]) ((l0 ++ l1.map (·.f2)) ++ [data]) := a3.snoc rfl hd fun u hu k hk hk' => by
    have := a6 u hu k hk
    have := hdl k hk'
    omega
  have c3 : Nest (Kd.int .u8) 5 w5 base ((us ++ ws) ++ [dv]) ((l0 ++ l1.map (·.f2)) ++ [data]) := c2.step fun v hv k hk => by
    obtain ⟨_, _, cells, hc⟩ := c2.lt hv hk
    exact keep k _ _ hc (by decide)
  rw [List.append_assoc, List.append_assoc] at c3
  have n2 : some w.heap.size ≠ v2.ownBlock := fun e => by
    obtain ⟨cells, hc⟩ := own_typed hown _ e.symm
    rw [b7] at hc
    simp at hc
  have n0 : some w.heap.size ≠ v0.ownBlock := fun e => by
    obtain ⟨cells, hc⟩ := own_typed c0 _ e.symm
    rw [b7] at hc
    simp at hc
  refine ⟨by simpa using hb_set b7 1 v2, by rw [hb_keep _ _ _ (by omega)]; exact b9, below_set hb (Nat.le_refl _), own_setCell c0 n0 _, ?_, c3.set b7 (by decide) 1 v2⟩
  rw [acells_snoc _ _ _ _ hl2.symm]
  exact own_setCell hown n2 _
set_option maxRecDepth 100000 in
set_option maxHeartbeats 2000000 in
/-- One act more waits: all in memory of its own, but for the act's octets, which are what came in. -/
theorem host_wait.strong (base : Nat) (A0 : Option Addr) (c0 : Nat) (l0 : List (List Int)) (A1 : Option Addr) (c1 : Nat) (l1 : List S55) (cap : Int) (f0 f1 : Int) (dv : Value) (data : List Int) (w : World) (hr0 : Kd.C (Kd.slice 5 (Kd.int .u8)) w A0 l0.length l0) (hr1 : Kd.C k55 w A1 l1.length l1)
    (hg0 : l0.length * 24 ≤ 140737488355328) (hg1 : (l1.length + 1) * 40 ≤ 140737488355328) (hs0 : ∀ x ∈ l0, x.length < 140737488355328) (hs1 : ∀ a ∈ l1, a.f2.length < 140737488355328) (hd : Kd.R (Kd.int .u8) 5 w base (fun _ => True) dv data) (hbase : base ≤ w.heap.size) :
    Calls Try.prog 36 #[.agg #[.slice A0 l0.length c0, .slice A1 l1.length c1, .int .i64 cap], .agg #[.int .i64 f0, .int .i64 f1, dv]] w fun e w' => ∃ v0 v1 us ws, e = .returned (.agg #[v0, v1, .int .i64 cap]) ∧
      w'.ownsRow base 26 1 v0 l0.length us ∧ w'.ownsRow base 55 3 v1 (l1.length + 1) (acells (l1 ++ [⟨f0, f1, data⟩]) (ws ++ [dv])) ∧ Nest (Kd.int .u8) 5 w' base (us ++ (ws ++ [dv])) (l0 ++ (l1.map (·.f2) ++ [data])) ∧ Below w.heap.size w w' := by
  obtain ⟨Ad, cd, rfl⟩ := Kd.R_slice hd
  have HD := Aside0.mk hd
  have HCL := Aside0.mk (fun W hW => host_Clone.strong A0 c0 l0 A1 c1 l1 cap W (Kd.C_below hr0 hW) (Kd.C_below hr1 hW) hg0 (by omega) hs0 hs1)
  have hx := hb_new w #[.slice A0 l0.length c0, .slice A1 l1.length c1, .int .i64 cap] 30
  have hb1 := below_alloc (Below.refl w.heap.size w) (.cells #[.slice A0 l0.length c0, .slice A1 l1.length c1, .int .i64 cap] 30)
  have hy := hb_new (w.alloc (.cells #[.slice A0 l0.length c0, .slice A1 l1.length c1, .int .i64 cap] 30)) #[.int .i64 f0, .int .i64 f1, .slice Ad data.length cd] 55
  have hb2 := below_alloc hb1 (.cells #[.int .i64 f0, .int .i64 f1, .slice Ad data.length cd] 55)
  have hz := hb_new ((w.alloc (.cells #[.slice A0 l0.length c0, .slice A1 l1.length c1, .int .i64 cap] 30)).alloc (.cells #[.int .i64 f0, .int .i64 f1, .slice Ad data.length cd] 55)) #[.slice none 0 0, .slice none 0 0, .int .i64 0] 30
  have hb3 := below_alloc hb2 (.cells #[.slice none 0 0, .slice none 0 0, .int .i64 0] 30)
  rw [show ((w.alloc (.cells #[.slice A0 l0.length c0, .slice A1 l1.length c1, .int .i64 cap] 30)).alloc (.cells #[.int .i64 f0, .int .i64 f1, .slice Ad data.length cd] 55)).heap.size = w.heap.size + 2 by simp] at hz
  rw [show (w.alloc (.cells #[.slice A0 l0.length c0, .slice A1 l1.length c1, .int .i64 cap] 30)).heap.size = w.heap.size + 1 by simp] at hy
  have HX := Aside0.mk ((Below.heap_alloc _ (.cells #[.slice none 0 0, .slice none 0 0, .int .i64 0] 30) _ (by simp; omega)).trans ((Below.heap_alloc _ (.cells #[.int .i64 f0, .int .i64 f1, .slice Ad data.length cd] 55) _ (by simp)).trans hx))
  have HY := Aside0.mk ((Below.heap_alloc _ (.cells #[.slice none 0 0, .slice none 0 0, .int .i64 0] 30) _ (by simp)).trans hy)
  have HZ := Aside0.mk hz
  have HB := Aside0.mk hb3
  clear hr0 hr1 hx hy hz hb1 hb2 hb3 hs0 hs1 hd
  go_enter Try.func36, Try.ntmps36
  have HDL := Aside0.mk (fun k hk => Kd.R_lt HD.out k hk)
  have hinfo : (Try.prog.info? 55).map (fun i => (i.zero, i.size, i.bytes)) = some (some (.agg #[.int .i64 0, .int .i64 0, .slice none 0 0]), 3, 40) := by kernel_rfl
  have HI := Aside0.mk hinfo
  clear hinfo
  go_wp2_with (first | (go_at_call 40; refine (HCL.out _ HB.out).mono ?_; rintro e w2 ⟨v0, v1, us, ws, rfl, o0, o1, nst, hb⟩; have HAT := Aside0.mk (host_wait.set (cap := cap) o0 o1 nst (below_step HB.out hb) (by simp) hb.size hbase (blk_below HX.out hb) (blk_below HY.out hb) (blk_below HZ.out hb)); have HX2 := Aside0.mk (blk_below HX.out hb); have HY2 := Aside0.mk (blk_below HY.out hb); obtain ⟨B0, k0, rfl⟩ := own_slice o0; obtain ⟨B1, k1, rfl⟩ := own_slice o1; have x0 := hb_cell HX2.out 0; have x1 := hb_cell HX2.out 1; have x2 := hb_cell HX2.out 2; simp at x0 x1 x2; have z0 := hb_free HX2.out 0; have z1 := hb_free HX2.out 1; have z2 := hb_free HX2.out 2; have y0 := hb_cell HY2.out 0; have y1 := hb_cell HY2.out 1; have y2 := hb_cell HY2.out 2; simp at y0 y1 y2; clear o0 o1 nst hb) | (at_builtin; go_loud (refine print_append_cells (w0 := w) base rfl (.tmp 8) (.tmp 10) 28 55 (.agg #[.int .i64 0, .int .i64 0, .slice none 0 0]) 3 40 rfl Try.underlying28 HI.out rfl (by omega) (by omega) (.slice B1 l1.length k1) l1.length (acells l1 ws) [.int .i64 f0, .int .i64 f1, .slice Ad data.length cd] rfl (by simp [Act.eval, World.setCell]) rfl (by simp [Value.oneCell']) HAT.out.2.1 (HAT.out.2.2.2.1.mono hbase) (by have := HAT.out.2.2.2.2.1; omega) (by omega) ?_); intro v2 w5 hown5 hb5 hg5 hat5; have HAPP := Aside0.mk (host_wait.app HAT.out (Kd.R_below HD.out HAT.out.2.2.2.1) HDL.out hown5 hg5 hat5 hbase); have hmid := host_wait.mid HAT.out hg5; obtain ⟨B2, k2, rfl⟩ := own_slice hown5; clear x0 x1 x2 y0 y1 y2 z0 z1 z2 hown5 hb5 hg5 hat5; have x0 := hb_cell hmid.1 0; have x1 := hb_cell hmid.1 1; have x2 := hb_cell hmid.1 2; have y0 := hb_cell hmid.2 0; have y1 := hb_cell hmid.2 1; have y2 := hb_cell hmid.2 2; simp at x0 x1 x2 y0 y1 y2; have z0 := hb_free hmid.1 1; have z1 := hb_free hmid.2 0; have z2 := hb_free hmid.2 1; have z3 := hb_free hmid.2 2; clear hmid))
  obtain ⟨p0, p1, p2, p3, p4, p5⟩ := HAPP.out
  obtain ⟨W7, hW7, q0, r0, r1, r2, hoth, hbl⟩ := set3 p1 (.slice B0 l0.length k0) (.slice B2 (l1.length + 1) k2) (.int .i64 cap)
  have hfin : W7.ownsRow base 26 1 (.slice B0 l0.length k0) l0.length us ∧ W7.ownsRow base 55 3 (.slice B2 (l1.length + 1) k2) (l1.length + 1) (acells (l1 ++ [⟨f0, f1, data⟩]) (ws ++ [.slice Ad data.length cd])) ∧ Nest (Kd.int .u8) 5 W7 base (us ++ (ws ++ [.slice Ad data.length cd])) (l0 ++ (l1.map (·.f2) ++ [data])) ∧ Below w.heap.size w W7 := by
    refine ⟨own_move p3 fun k hk => hoth k fun e => ?_, own_move p4 fun k hk => hoth k fun e => ?_, p5.step fun v hv k hk => hoth k fun e => p5.typed p1 (by decide) hv hk e, hbl w p2 (by omega)⟩
    · obtain ⟨cells, hc⟩ := own_typed p3 k hk
      rw [e, p1] at hc
      simp at hc
    · obtain ⟨cells, hc⟩ := own_typed p4 k hk
      rw [e, p1] at hc
      simp at hc
  have HFIN := Aside0.mk hfin
  rw [show w.heap.size + 1 + 1 = w.heap.size + 2 from rfl]
  rw [← hW7]
  clear hfin hoth hbl q0 p0 p1 p2 p3 p4 p5 hW7 x0 x1 x2 y0 y1 y2 z0 z1 z2 z3
  exact bodyPost_ret (v := .agg #[.slice B0 l0.length k0, .slice B2 (l1.length + 1) k2, .int .i64 cap]) (by simp [results, Try.results36, go_sem, r0, r1, r2]) rfl ⟨_, _, rfl, us, HFIN.out.1, ws, HFIN.out.2⟩
set_option maxRecDepth 100000 in
theorem host_Write.bad (A0_0 : Option Addr) (c0_0 : Nat) (l0_0 : List (List Int)) (A0_1 : Option Addr) (c0_1 : Nat) (l0_1 : List (S55)) (a0_2 : Int) (a1 : Int) (A2 : Option Addr) (c2 : Nat) (l2 : List Int) (w : World) (hr0_0 : Kd.C (Kd.slice 5 (Kd.int .u8)) w A0_0 l0_0.length l0_0) (hc0_0 : l0_0.length ≤ c0_0) (hr0_1 : Kd.C k55 w A0_1 l0_1.length l0_1) (hc0_1 : l0_1.length ≤ c0_1) (hc : host_Check.chk l0_0 l0_1 a0_2 = 9) :
    Calls Try.prog 12 #[.agg #[.slice A0_0 l0_0.length c0_0, .slice A0_1 l0_1.length c0_1, .int .i64 a0_2], .int .i64 a1, .slice A2 l2.length c2] w fun e w' => e = .returned (.tuple #[.agg #[.slice none 0 0, .slice none 0 0, .int .i64 0], .int .i64 9]) ∧ Below w.heap.size w w' := by
  have HCH := Aside0.mk (fun W hW => host_Check.calls A0_0 c0_0 l0_0 A0_1 c0_1 l0_1 a0_2 9 W (Kd.C_below hr0_0 hW) hc0_0 (Kd.C_below hr0_1 hW) hc0_1 (by unfold host_Check.f; rw [hc]))
  clear hc
  have HB := Aside0.mk (below_alloc (below_alloc (Below.refl w.heap.size w) (.cells #[.slice A0_0 l0_0.length c0_0, .slice A0_1 l0_1.length c0_1, .int .i64 a0_2] 30)) (.cells #[.slice none 0 0, .slice none 0 0, .int .i64 0] 30))
  have hz := hb_new (w.alloc (.cells #[.slice A0_0 l0_0.length c0_0, .slice A0_1 l0_1.length c0_1, .int .i64 a0_2] 30)) #[.slice none 0 0, .slice none 0 0, .int .i64 0] 30
  rw [show (w.alloc (.cells #[.slice A0_0 l0_0.length c0_0, .slice A0_1 l0_1.length c0_1, .int .i64 a0_2] 30)).heap.size = w.heap.size + 1 by simp] at hz
  have HZ := Aside0.mk hz
  have HX := Aside0.mk (show ((w.alloc (.cells #[.slice A0_0 l0_0.length c0_0, .slice A0_1 l0_1.length c0_1, .int .i64 a0_2] 30)).alloc (.cells #[.slice none 0 0, .slice none 0 0, .int .i64 0] 30)).heap[w.heap.size]? = some (.cells #[.slice A0_0 l0_0.length c0_0, .slice A0_1 l0_1.length c0_1, .int .i64 a0_2] 30 (0, 0)) from (Below.heap_alloc _ _ _ (by simp)).trans (hb_new w _ _))
  clear hr0_0 hr0_1 hc0_0 hc0_1
  go_enter Try.func12, Try.ntmps12
  go_wp2_with (first | (go_at_call 20; refine (HCH.out _ HB.out).mono ?_; rintro e w1 ⟨rfl, hb⟩; have HB1 := Aside0.mk (below_step HB.out hb); have HZ1 := Aside0.mk (blk_below HZ.out hb); have HX1 := Aside0.mk (blk_below HX.out hb); clear hb; have x0 := hb_cell HX1.out 0; have x1 := hb_cell HX1.out 1; have x2 := hb_cell HX1.out 2; simp at x0 x1 x2; have y0 := hb_cell HZ1.out 0; have y1 := hb_cell HZ1.out 1; have y2 := hb_cell HZ1.out 2; simp at y0 y1 y2; have f0 := hb_free HZ1.out 0; have f1 := hb_free HZ1.out 1; have f2 := hb_free HZ1.out 2))
  obtain ⟨W3, hW3, q0, r0, r1, r2, _, hbl⟩ := set3 HZ1.out (.slice none 0 0) (.slice none 0 0) (.int .i64 0)
  rw [← hW3]
  have HBL := Aside0.mk (hbl w HB1.out (by omega))
  clear hW3 q0 hbl x0 x1 x2 y0 y1 y2 f0 f1 f2
  exact bodyPost_ret (v := .tuple #[.agg #[.slice none 0 0, .slice none 0 0, .int .i64 0], .int .i64 9]) (by simp [results, Try.results12, go_sem, r0, r1, r2]) rfl ⟨rfl, HBL.out⟩
set_option maxRecDepth 100000 in
theorem host_Write.low (A0_0 : Option Addr) (c0_0 : Nat) (l0_0 : List (List Int)) (A0_1 : Option Addr) (c0_1 : Nat) (l0_1 : List (S55)) (a0_2 : Int) (a1 : Int) (A2 : Option Addr) (c2 : Nat) (l2 : List Int) (w : World) (hr0_0 : Kd.C (Kd.slice 5 (Kd.int .u8)) w A0_0 l0_0.length l0_0) (hc0_0 : l0_0.length ≤ c0_0) (hr0_1 : Kd.C k55 w A0_1 l0_1.length l0_1) (hc0_1 : l0_1.length ≤ c0_1) (hc : host_Check.chk l0_0 l0_1 a0_2 = 0) (ha : a1 < 0) :
    Calls Try.prog 12 #[.agg #[.slice A0_0 l0_0.length c0_0, .slice A0_1 l0_1.length c0_1, .int .i64 a0_2], .int .i64 a1, .slice A2 l2.length c2] w fun e w' => e = .returned (.tuple #[.agg #[.slice none 0 0, .slice none 0 0, .int .i64 0], .int .i64 4]) ∧ Below w.heap.size w w' := by
  have HCH := Aside0.mk (fun W hW => host_Check.calls A0_0 c0_0 l0_0 A0_1 c0_1 l0_1 a0_2 0 W (Kd.C_below hr0_0 hW) hc0_0 (Kd.C_below hr0_1 hW) hc0_1 (by unfold host_Check.f; rw [hc]))
  clear hc
  have HB := Aside0.mk (below_alloc (below_alloc (Below.refl w.heap.size w) (.cells #[.slice A0_0 l0_0.length c0_0, .slice A0_1 l0_1.length c0_1, .int .i64 a0_2] 30)) (.cells #[.slice none 0 0, .slice none 0 0, .int .i64 0] 30))
  have hz := hb_new (w.alloc (.cells #[.slice A0_0 l0_0.length c0_0, .slice A0_1 l0_1.length c0_1, .int .i64 a0_2] 30)) #[.slice none 0 0, .slice none 0 0, .int .i64 0] 30
  rw [show (w.alloc (.cells #[.slice A0_0 l0_0.length c0_0, .slice A0_1 l0_1.length c0_1, .int .i64 a0_2] 30)).heap.size = w.heap.size + 1 by simp] at hz
  have HZ := Aside0.mk hz
  have HX := Aside0.mk (show ((w.alloc (.cells #[.slice A0_0 l0_0.length c0_0, .slice A0_1 l0_1.length c0_1, .int .i64 a0_2] 30)).alloc (.cells #[.slice none 0 0, .slice none 0 0, .int .i64 0] 30)).heap[w.heap.size]? = some (.cells #[.slice A0_0 l0_0.length c0_0, .slice A0_1 l0_1.length c0_1, .int .i64 a0_2] 30 (0, 0)) from (Below.heap_alloc _ _ _ (by simp)).trans (hb_new w _ _))
  clear hr0_0 hr0_1 hc0_0 hc0_1
  have hab : decide (a1 < 0) = true := decide_eq_true ha
  clear ha
  go_enter Try.func12, Try.ntmps12
  go_wp2_with (first | (go_at_call 20; refine (HCH.out _ HB.out).mono ?_; rintro e w1 ⟨rfl, hb⟩; have HB1 := Aside0.mk (below_step HB.out hb); have HZ1 := Aside0.mk (blk_below HZ.out hb); have HX1 := Aside0.mk (blk_below HX.out hb); clear hb; have x0 := hb_cell HX1.out 0; have x1 := hb_cell HX1.out 1; have x2 := hb_cell HX1.out 2; simp at x0 x1 x2; have y0 := hb_cell HZ1.out 0; have y1 := hb_cell HZ1.out 1; have y2 := hb_cell HZ1.out 2; simp at y0 y1 y2; have f0 := hb_free HZ1.out 0; have f1 := hb_free HZ1.out 1; have f2 := hb_free HZ1.out 2))
  obtain ⟨W3, hW3, q0, r0, r1, r2, _, hbl⟩ := set3 HZ1.out (.slice none 0 0) (.slice none 0 0) (.int .i64 0)
  rw [← hW3]
  have HBL := Aside0.mk (hbl w HB1.out (by omega))
  clear hW3 q0 hbl x0 x1 x2 y0 y1 y2 f0 f1 f2
  exact bodyPost_ret (v := .tuple #[.agg #[.slice none 0 0, .slice none 0 0, .int .i64 0], .int .i64 4]) (by simp [results, Try.results12, go_sem, r0, r1, r2]) rfl ⟨rfl, HBL.out⟩
set_option maxRecDepth 100000 in
theorem host_Write.high (A0_0 : Option Addr) (c0_0 : Nat) (l0_0 : List (List Int)) (A0_1 : Option Addr) (c0_1 : Nat) (l0_1 : List (S55)) (a0_2 : Int) (a1 : Int) (A2 : Option Addr) (c2 : Nat) (l2 : List Int) (w : World) (hr0_0 : Kd.C (Kd.slice 5 (Kd.int .u8)) w A0_0 l0_0.length l0_0) (hc0_0 : l0_0.length ≤ c0_0) (hr0_1 : Kd.C k55 w A0_1 l0_1.length l0_1) (hc0_1 : l0_1.length ≤ c0_1) (hc : host_Check.chk l0_0 l0_1 a0_2 = 0) (ha : 0 ≤ a1) (hs : host_Read.sizeGo (l0_0.length : Int) l0_1 ≤ a1) :
    Calls Try.prog 12 #[.agg #[.slice A0_0 l0_0.length c0_0, .slice A0_1 l0_1.length c0_1, .int .i64 a0_2], .int .i64 a1, .slice A2 l2.length c2] w fun e w' => e = .returned (.tuple #[.agg #[.slice none 0 0, .slice none 0 0, .int .i64 0], .int .i64 4]) ∧ Below w.heap.size w w' := by
  have HCH := Aside0.mk (fun W hW => host_Check.calls A0_0 c0_0 l0_0 A0_1 c0_1 l0_1 a0_2 0 W (Kd.C_below hr0_0 hW) hc0_0 (Kd.C_below hr0_1 hW) hc0_1 (by unfold host_Check.f; rw [hc]))
  clear hc
  have HSZ := Aside0.mk (fun W (hW : Below w.heap.size w W) => host_Read.size A0_0 l0_0.length c0_0 A0_1 c0_1 l0_1 a0_2 W (Kd.C_below hr0_1 hW))
  generalize host_Read.sizeGo (l0_0.length : Int) l0_1 = sz at hs HSZ
  have HB := Aside0.mk (below_alloc (below_alloc (Below.refl w.heap.size w) (.cells #[.slice A0_0 l0_0.length c0_0, .slice A0_1 l0_1.length c0_1, .int .i64 a0_2] 30)) (.cells #[.slice none 0 0, .slice none 0 0, .int .i64 0] 30))
  have hz := hb_new (w.alloc (.cells #[.slice A0_0 l0_0.length c0_0, .slice A0_1 l0_1.length c0_1, .int .i64 a0_2] 30)) #[.slice none 0 0, .slice none 0 0, .int .i64 0] 30
  rw [show (w.alloc (.cells #[.slice A0_0 l0_0.length c0_0, .slice A0_1 l0_1.length c0_1, .int .i64 a0_2] 30)).heap.size = w.heap.size + 1 by simp] at hz
  have HZ := Aside0.mk hz
  have HX := Aside0.mk (show ((w.alloc (.cells #[.slice A0_0 l0_0.length c0_0, .slice A0_1 l0_1.length c0_1, .int .i64 a0_2] 30)).alloc (.cells #[.slice none 0 0, .slice none 0 0, .int .i64 0] 30)).heap[w.heap.size]? = some (.cells #[.slice A0_0 l0_0.length c0_0, .slice A0_1 l0_1.length c0_1, .int .i64 a0_2] 30 (0, 0)) from (Below.heap_alloc _ _ _ (by simp)).trans (hb_new w _ _))
  clear hr0_0 hr0_1 hc0_0 hc0_1
  have hab : decide (a1 < 0) = false := decide_eq_false (by omega)
  have hsb : decide (sz ≤ a1) = true := decide_eq_true hs
  clear ha hs
  go_enter Try.func12, Try.ntmps12
  go_wp2_with (first | (go_at_call 20; refine (HCH.out _ HB.out).mono ?_; rintro e w1 ⟨rfl, hb⟩; have HB1 := Aside0.mk (below_step HB.out hb); have HZ1 := Aside0.mk (blk_below HZ.out hb); have HX1 := Aside0.mk (blk_below HX.out hb); clear hb; have x0 := hb_cell HX1.out 0; have x1 := hb_cell HX1.out 1; have x2 := hb_cell HX1.out 2; simp at x0 x1 x2; have y0 := hb_cell HZ1.out 0; have y1 := hb_cell HZ1.out 1; have y2 := hb_cell HZ1.out 2; simp at y0 y1 y2; have f0 := hb_free HZ1.out 0; have f1 := hb_free HZ1.out 1; have f2 := hb_free HZ1.out 2) | (go_at_call 35; refine (HSZ.out _ HB1.out).mono ?_; rintro e w2 ⟨rfl, hb⟩; clear x0 x1 x2 y0 y1 y2 f0 f1 f2; have HB2 := Aside0.mk (below_step HB1.out hb); have HZ2 := Aside0.mk (blk_below HZ1.out hb); have HX2 := Aside0.mk (blk_below HX1.out hb); clear hb; have x0 := hb_cell HX2.out 0; have x1 := hb_cell HX2.out 1; have x2 := hb_cell HX2.out 2; simp at x0 x1 x2; have y0 := hb_cell HZ2.out 0; have y1 := hb_cell HZ2.out 1; have y2 := hb_cell HZ2.out 2; simp at y0 y1 y2; have f0 := hb_free HZ2.out 0; have f1 := hb_free HZ2.out 1; have f2 := hb_free HZ2.out 2))
  obtain ⟨W3, hW3, q0, r0, r1, r2, _, hbl⟩ := set3 HZ2.out (.slice none 0 0) (.slice none 0 0) (.int .i64 0)
  rw [← hW3]
  have HBL := Aside0.mk (hbl w HB2.out (by omega))
  clear hW3 q0 hbl x0 x1 x2 y0 y1 y2 f0 f1 f2
  exact bodyPost_ret (v := .tuple #[.agg #[.slice none 0 0, .slice none 0 0, .int .i64 0], .int .i64 4]) (by simp [results, Try.results12, go_sem, r0, r1, r2]) rfl ⟨rfl, HBL.out⟩
set_option maxRecDepth 100000 in
theorem host_Write.arg (A0_0 : Option Addr) (c0_0 : Nat) (l0_0 : List (List Int)) (A0_1 : Option Addr) (c0_1 : Nat) (l0_1 : List (S55)) (a0_2 : Int) (a1 : Int) (A2 : Option Addr) (c2 : Nat) (l2 : List Int) (w : World) (hr0_0 : Kd.C (Kd.slice 5 (Kd.int .u8)) w A0_0 l0_0.length l0_0) (hc0_0 : l0_0.length ≤ c0_0) (hr0_1 : Kd.C k55 w A0_1 l0_1.length l0_1) (hc0_1 : l0_1.length ≤ c0_1) (hc : host_Check.chk l0_0 l0_1 a0_2 = 0) (ha : 0 ≤ a1) (hs : ¬ host_Read.sizeGo (l0_0.length : Int) l0_1 ≤ a1) (hl : l2.length ≠ 64) :
    Calls Try.prog 12 #[.agg #[.slice A0_0 l0_0.length c0_0, .slice A0_1 l0_1.length c0_1, .int .i64 a0_2], .int .i64 a1, .slice A2 l2.length c2] w fun e w' => e = .returned (.tuple #[.agg #[.slice none 0 0, .slice none 0 0, .int .i64 0], .int .i64 1]) ∧ Below w.heap.size w w' := by
  have HCH := Aside0.mk (fun W hW => host_Check.calls A0_0 c0_0 l0_0 A0_1 c0_1 l0_1 a0_2 0 W (Kd.C_below hr0_0 hW) hc0_0 (Kd.C_below hr0_1 hW) hc0_1 (by unfold host_Check.f; rw [hc]))
  clear hc
  have HSZ := Aside0.mk (fun W (hW : Below w.heap.size w W) => host_Read.size A0_0 l0_0.length c0_0 A0_1 c0_1 l0_1 a0_2 W (Kd.C_below hr0_1 hW))
  generalize host_Read.sizeGo (l0_0.length : Int) l0_1 = sz at hs HSZ
  have HB := Aside0.mk (below_alloc (below_alloc (Below.refl w.heap.size w) (.cells #[.slice A0_0 l0_0.length c0_0, .slice A0_1 l0_1.length c0_1, .int .i64 a0_2] 30)) (.cells #[.slice none 0 0, .slice none 0 0, .int .i64 0] 30))
  have hz := hb_new (w.alloc (.cells #[.slice A0_0 l0_0.length c0_0, .slice A0_1 l0_1.length c0_1, .int .i64 a0_2] 30)) #[.slice none 0 0, .slice none 0 0, .int .i64 0] 30
  rw [show (w.alloc (.cells #[.slice A0_0 l0_0.length c0_0, .slice A0_1 l0_1.length c0_1, .int .i64 a0_2] 30)).heap.size = w.heap.size + 1 by simp] at hz
  have HZ := Aside0.mk hz
  have HX := Aside0.mk (show ((w.alloc (.cells #[.slice A0_0 l0_0.length c0_0, .slice A0_1 l0_1.length c0_1, .int .i64 a0_2] 30)).alloc (.cells #[.slice none 0 0, .slice none 0 0, .int .i64 0] 30)).heap[w.heap.size]? = some (.cells #[.slice A0_0 l0_0.length c0_0, .slice A0_1 l0_1.length c0_1, .int .i64 a0_2] 30 (0, 0)) from (Below.heap_alloc _ _ _ (by simp)).trans (hb_new w _ _))
  clear hr0_0 hr0_1 hc0_0 hc0_1
  have hab : decide (a1 < 0) = false := decide_eq_false (by omega)
  have hsb : decide (sz ≤ a1) = false := decide_eq_false hs
  have hlb : ((l2.length : Int) != 64) = true := by simp; omega
  generalize l2.length = n2 at hlb
  clear ha hs hl
  go_enter Try.func12, Try.ntmps12
  go_wp2_with (first | (go_at_call 20; refine (HCH.out _ HB.out).mono ?_; rintro e w1 ⟨rfl, hb⟩; have HB1 := Aside0.mk (below_step HB.out hb); have HZ1 := Aside0.mk (blk_below HZ.out hb); have HX1 := Aside0.mk (blk_below HX.out hb); clear hb; have x0 := hb_cell HX1.out 0; have x1 := hb_cell HX1.out 1; have x2 := hb_cell HX1.out 2; simp at x0 x1 x2; have y0 := hb_cell HZ1.out 0; have y1 := hb_cell HZ1.out 1; have y2 := hb_cell HZ1.out 2; simp at y0 y1 y2; have f0 := hb_free HZ1.out 0; have f1 := hb_free HZ1.out 1; have f2 := hb_free HZ1.out 2) | (go_at_call 35; refine (HSZ.out _ HB1.out).mono ?_; rintro e w2 ⟨rfl, hb⟩; clear x0 x1 x2 y0 y1 y2 f0 f1 f2; have HB2 := Aside0.mk (below_step HB1.out hb); have HZ2 := Aside0.mk (blk_below HZ1.out hb); have HX2 := Aside0.mk (blk_below HX1.out hb); clear hb; have x0 := hb_cell HX2.out 0; have x1 := hb_cell HX2.out 1; have x2 := hb_cell HX2.out 2; simp at x0 x1 x2; have y0 := hb_cell HZ2.out 0; have y1 := hb_cell HZ2.out 1; have y2 := hb_cell HZ2.out 2; simp at y0 y1 y2; have f0 := hb_free HZ2.out 0; have f1 := hb_free HZ2.out 1; have f2 := hb_free HZ2.out 2))
  obtain ⟨W3, hW3, q0, r0, r1, r2, _, hbl⟩ := set3 HZ2.out (.slice none 0 0) (.slice none 0 0) (.int .i64 0)
  rw [← hW3]
  have HBL := Aside0.mk (hbl w HB2.out (by omega))
  clear hW3 q0 hbl x0 x1 x2 y0 y1 y2 f0 f1 f2
  exact bodyPost_ret (v := .tuple #[.agg #[.slice none 0 0, .slice none 0 0, .int .i64 0], .int .i64 1]) (by simp [results, Try.results12, go_sem, r0, r1, r2]) rfl ⟨rfl, HBL.out⟩
set_option maxRecDepth 100000 in
theorem host_Write.full (A0_0 : Option Addr) (c0_0 : Nat) (l0_0 : List (List Int)) (A0_1 : Option Addr) (c0_1 : Nat) (l0_1 : List (S55)) (a0_2 : Int) (a1 : Int) (A2 : Option Addr) (c2 : Nat) (l2 : List Int) (w : World) (hr0_0 : Kd.C (Kd.slice 5 (Kd.int .u8)) w A0_0 l0_0.length l0_0) (hc0_0 : l0_0.length ≤ c0_0) (hr0_1 : Kd.C k55 w A0_1 l0_1.length l0_1) (hc0_1 : l0_1.length ≤ c0_1) (hc : host_Check.chk l0_0 l0_1 a0_2 = 0) (ha : 0 ≤ a1) (hs : ¬ host_Read.sizeGo (l0_0.length : Int) l0_1 ≤ a1) (hl : l2.length = 64) (hf : l0_1.length = 4096) :
    Calls Try.prog 12 #[.agg #[.slice A0_0 l0_0.length c0_0, .slice A0_1 l0_1.length c0_1, .int .i64 a0_2], .int .i64 a1, .slice A2 l2.length c2] w fun e w' => e = .returned (.tuple #[.agg #[.slice none 0 0, .slice none 0 0, .int .i64 0], .int .i64 51]) ∧ Below w.heap.size w w' := by
  have HCH := Aside0.mk (fun W hW => host_Check.calls A0_0 c0_0 l0_0 A0_1 c0_1 l0_1 a0_2 0 W (Kd.C_below hr0_0 hW) hc0_0 (Kd.C_below hr0_1 hW) hc0_1 (by unfold host_Check.f; rw [hc]))
  clear hc
  have HSZ := Aside0.mk (fun W (hW : Below w.heap.size w W) => host_Read.size A0_0 l0_0.length c0_0 A0_1 c0_1 l0_1 a0_2 W (Kd.C_below hr0_1 hW))
  generalize host_Read.sizeGo (l0_0.length : Int) l0_1 = sz at hs HSZ
  have HB := Aside0.mk (below_alloc (below_alloc (Below.refl w.heap.size w) (.cells #[.slice A0_0 l0_0.length c0_0, .slice A0_1 l0_1.length c0_1, .int .i64 a0_2] 30)) (.cells #[.slice none 0 0, .slice none 0 0, .int .i64 0] 30))
  have hz := hb_new (w.alloc (.cells #[.slice A0_0 l0_0.length c0_0, .slice A0_1 l0_1.length c0_1, .int .i64 a0_2] 30)) #[.slice none 0 0, .slice none 0 0, .int .i64 0] 30
  rw [show (w.alloc (.cells #[.slice A0_0 l0_0.length c0_0, .slice A0_1 l0_1.length c0_1, .int .i64 a0_2] 30)).heap.size = w.heap.size + 1 by simp] at hz
  have HZ := Aside0.mk hz
  have HX := Aside0.mk (show ((w.alloc (.cells #[.slice A0_0 l0_0.length c0_0, .slice A0_1 l0_1.length c0_1, .int .i64 a0_2] 30)).alloc (.cells #[.slice none 0 0, .slice none 0 0, .int .i64 0] 30)).heap[w.heap.size]? = some (.cells #[.slice A0_0 l0_0.length c0_0, .slice A0_1 l0_1.length c0_1, .int .i64 a0_2] 30 (0, 0)) from (Below.heap_alloc _ _ _ (by simp)).trans (hb_new w _ _))
  clear hr0_0 hr0_1 hc0_0 hc0_1
  have hab : decide (a1 < 0) = false := decide_eq_false (by omega)
  have hsb : decide (sz ≤ a1) = false := decide_eq_false hs
  rw [hl]
  generalize l0_1.length = n1 at *
  subst hf
  clear ha hs hl
  go_enter Try.func12, Try.ntmps12
  go_wp2_with (first | (go_at_call 20; refine (HCH.out _ HB.out).mono ?_; rintro e w1 ⟨rfl, hb⟩; have HB1 := Aside0.mk (below_step HB.out hb); have HZ1 := Aside0.mk (blk_below HZ.out hb); have HX1 := Aside0.mk (blk_below HX.out hb); clear hb; have x0 := hb_cell HX1.out 0; have x1 := hb_cell HX1.out 1; have x2 := hb_cell HX1.out 2; simp at x0 x1 x2; have y0 := hb_cell HZ1.out 0; have y1 := hb_cell HZ1.out 1; have y2 := hb_cell HZ1.out 2; simp at y0 y1 y2; have f0 := hb_free HZ1.out 0; have f1 := hb_free HZ1.out 1; have f2 := hb_free HZ1.out 2) | (go_at_call 35; refine (HSZ.out _ HB1.out).mono ?_; rintro e w2 ⟨rfl, hb⟩; clear x0 x1 x2 y0 y1 y2 f0 f1 f2; have HB2 := Aside0.mk (below_step HB1.out hb); have HZ2 := Aside0.mk (blk_below HZ1.out hb); have HX2 := Aside0.mk (blk_below HX1.out hb); clear hb; have x0 := hb_cell HX2.out 0; have x1 := hb_cell HX2.out 1; have x2 := hb_cell HX2.out 2; simp at x0 x1 x2; have y0 := hb_cell HZ2.out 0; have y1 := hb_cell HZ2.out 1; have y2 := hb_cell HZ2.out 2; simp at y0 y1 y2; have f0 := hb_free HZ2.out 0; have f1 := hb_free HZ2.out 1; have f2 := hb_free HZ2.out 2))
  obtain ⟨W3, hW3, q0, r0, r1, r2, _, hbl⟩ := set3 HZ2.out (.slice none 0 0) (.slice none 0 0) (.int .i64 0)
  rw [← hW3]
  have HBL := Aside0.mk (hbl w HB2.out (by omega))
  clear hW3 q0 hbl x0 x1 x2 y0 y1 y2 f0 f1 f2
  exact bodyPost_ret (v := .tuple #[.agg #[.slice none 0 0, .slice none 0 0, .int .i64 0], .int .i64 51]) (by simp [results, Try.results12, go_sem, r0, r1, r2]) rfl ⟨rfl, HBL.out⟩
/- GOOD -/
theorem host_Write.valid {ss : List (List Int)} {ws : List S55} {cap : Int} (h : host_Check.chk ss ws cap = 0) : ss.length * 24 ≤ 140737488355328 ∧ ws.length ≤ 4096 ∧ (∀ x ∈ ss, x.length < 140737488355328) ∧ ∀ a ∈ ws, a.f2.length < 140737488355328 := by
  unfold host_Check.chk at h
  split at h
  · omega
  · rename_i hn
    simp only [not_or, Int.not_lt, Bool.not_eq_true] at hn
    obtain ⟨h1, h2, h3, h4, h5, h6⟩ := hn
    refine ⟨by omega, by omega, fun x hx => ?_, fun a ha => ?_⟩
    · have := List.any_eq_false.1 h4 x hx
      simp at this
      omega
    · have := List.any_eq_false.1 h6 a ha
      unfold host_Check.badA at this
      have h7 : host_Check.may a.f0 a.f1 a.f2.length cap = true := by simpa using this
      simp only [host_Check.may, Bool.or_eq_true, Bool.and_eq_true, decide_eq_true_eq] at h7
      omega
set_option maxRecDepth 100000 in
theorem host_Write.good (A0_0 : Option Addr) (c0_0 : Nat) (l0_0 : List (List Int)) (A0_1 : Option Addr) (c0_1 : Nat) (l0_1 : List (S55)) (a0_2 : Int) (a1 : Int) (A2 : Option Addr) (c2 : Nat) (l2 : List Int) (w : World) (hr0_0 : Kd.C (Kd.slice 5 (Kd.int .u8)) w A0_0 l0_0.length l0_0) (hc0_0 : l0_0.length ≤ c0_0) (hr0_1 : Kd.C k55 w A0_1 l0_1.length l0_1) (hc0_1 : l0_1.length ≤ c0_1) (hr2 : Kd.C (Kd.int .u8) w A2 l2.length l2) (hc2 : l2.length ≤ c2) (hc : host_Check.chk l0_0 l0_1 a0_2 = 0) (ha : 0 ≤ a1) (hs : ¬ host_Read.sizeGo (l0_0.length : Int) l0_1 ≤ a1) (hl : l2.length = 64) (hf : l0_1.length ≠ 4096) :
    Calls Try.prog 12 #[.agg #[.slice A0_0 l0_0.length c0_0, .slice A0_1 l0_1.length c0_1, .int .i64 a0_2], .int .i64 a1, .slice A2 l2.length c2] w fun e w' => ∃ v0_ v1_ : Value, e = .returned (.tuple #[.agg #[v0_, v1_, .int .i64 a0_2], .int .i64 0]) ∧ Kd.S (Kd.slice 5 (Kd.int .u8)) 26 w' w.heap.size (fun _ => True) v0_ l0_0 ∧ Kd.S k55 55 w' w.heap.size (fun _ => True) v1_ (l0_1 ++ [⟨1, a1, l2⟩]) ∧ Below w.heap.size w w' := by
  have hv := host_Write.valid hc
  have HCH := Aside0.mk (fun W hW => host_Check.calls A0_0 c0_0 l0_0 A0_1 c0_1 l0_1 a0_2 0 W (Kd.C_below hr0_0 hW) hc0_0 (Kd.C_below hr0_1 hW) hc0_1 (by unfold host_Check.f; rw [hc]))
  have HSZ := Aside0.mk (fun W (hW : Below w.heap.size w W) => host_Read.size A0_0 l0_0.length c0_0 A0_1 c0_1 l0_1 a0_2 W (Kd.C_below hr0_1 hW))
  have HCB := Aside0.mk (fun W (hW : Below w.heap.size w W) => slices_Clone_byte_byte.calls A2 c2 l2 l2 W (Kd.C_below hr2 hW) hc2 (by unfold slices_Clone_byte_byte.f; rw [if_pos (by omega)]))
  have HWT := Aside0.mk (fun W (hW : Below w.heap.size w W) dv (hd : Kd.R (Kd.int .u8) 5 W w.heap.size (fun _ => True) dv l2) => host_wait.strong w.heap.size A0_0 c0_0 l0_0 A0_1 c0_1 l0_1 a0_2 1 a1 dv l2 W (Kd.C_below hr0_0 hW) (Kd.C_below hr0_1 hW) hv.1 (by omega) hv.2.2.1 hv.2.2.2 hd hW.size)
  generalize host_Read.sizeGo (l0_0.length : Int) l0_1 = sz at hs HSZ
  have hab : decide (a1 < 0) = false := decide_eq_false (by omega)
  have hsb : decide (sz ≤ a1) = false := decide_eq_false hs
  have hfb : ((l0_1.length : Int) == 4096) = false := by simp; omega
  have HB := Aside0.mk (below_alloc (below_alloc (Below.refl w.heap.size w) (.cells #[.slice A0_0 l0_0.length c0_0, .slice A0_1 l0_1.length c0_1, .int .i64 a0_2] 30)) (.cells #[.slice none 0 0, .slice none 0 0, .int .i64 0] 30))
  have hz := hb_new (w.alloc (.cells #[.slice A0_0 l0_0.length c0_0, .slice A0_1 l0_1.length c0_1, .int .i64 a0_2] 30)) #[.slice none 0 0, .slice none 0 0, .int .i64 0] 30
  rw [show (w.alloc (.cells #[.slice A0_0 l0_0.length c0_0, .slice A0_1 l0_1.length c0_1, .int .i64 a0_2] 30)).heap.size = w.heap.size + 1 by simp] at hz
  have HZ := Aside0.mk hz
  have HX := Aside0.mk (show ((w.alloc (.cells #[.slice A0_0 l0_0.length c0_0, .slice A0_1 l0_1.length c0_1, .int .i64 a0_2] 30)).alloc (.cells #[.slice none 0 0, .slice none 0 0, .int .i64 0] 30)).heap[w.heap.size]? = some (.cells #[.slice A0_0 l0_0.length c0_0, .slice A0_1 l0_1.length c0_1, .int .i64 a0_2] 30 (0, 0)) from (Below.heap_alloc _ _ _ (by simp)).trans (hb_new w _ _))
  clear hz
  have HL := Aside0.mk hl
  clear hr0_0 hr0_1 hc0_0 hc0_1 hr2 hc2 hc ha hs hf hv
  rw [hl] at HCB ⊢
  clear hl
  go_enter Try.func12, Try.ntmps12
  go_wp2_with (first | (go_at_call 20; refine (HCH.out _ HB.out).mono ?_; rintro e w1 ⟨rfl, hb⟩; have HB1 := Aside0.mk (below_step HB.out hb); have HZ1 := Aside0.mk (blk_below HZ.out hb); have HX1 := Aside0.mk (blk_below HX.out hb); clear hb; have x0 := hb_cell HX1.out 0; have x1 := hb_cell HX1.out 1; have x2 := hb_cell HX1.out 2; simp at x0 x1 x2; have y0 := hb_cell HZ1.out 0; have y1 := hb_cell HZ1.out 1; have y2 := hb_cell HZ1.out 2; simp at y0 y1 y2; have f0 := hb_free HZ1.out 0; have f1 := hb_free HZ1.out 1; have f2 := hb_free HZ1.out 2) | (go_at_call 35; refine (HSZ.out _ HB1.out).mono ?_; rintro e w2 ⟨rfl, hb⟩; clear x0 x1 x2 y0 y1 y2 f0 f1 f2; have HB2 := Aside0.mk (below_step HB1.out hb); have HZ2 := Aside0.mk (blk_below HZ1.out hb); have HX2 := Aside0.mk (blk_below HX1.out hb); clear hb; have x0 := hb_cell HX2.out 0; have x1 := hb_cell HX2.out 1; have x2 := hb_cell HX2.out 2; simp at x0 x1 x2; have y0 := hb_cell HZ2.out 0; have y1 := hb_cell HZ2.out 1; have y2 := hb_cell HZ2.out 2; simp at y0 y1 y2; have f0 := hb_free HZ2.out 0; have f1 := hb_free HZ2.out 1; have f2 := hb_free HZ2.out 2))
  refine plan_regionW [(0, .quiet), (1, .pure), (2, .pure), (3, .loud), (4, .pure), (5, .last), (6, .last), (7, .pure)] [5, 6] (fun W => W.heap[w.heap.size]? = some (.cells #[.slice A0_0 l0_0.length c0_0, .slice A0_1 l0_1.length c0_1, .int .i64 a0_2] 30 (0, 0))) (by kernel_rfl) (by kernel_rfl) (by decide) (fun _ _ _ _ _ h => h) (fun w_ hb_ => blk_below HX2.out hb_) ?_
  intro w3 hbw3 hSw3
  simp only [planOps, List.getElem?_toArray, List.getElem?_cons_zero, List.getElem?_cons_succ, List.cons_append, List.nil_append, Act.put, List.setIfInBounds_toArray, List.set_cons_succ, List.set_cons_zero]
  have HB3 := Aside0.mk (below_step HB2.out hbw3)
  have HZ3 := Aside0.mk (blk_below HZ2.out hbw3)
  clear hbw3 x0 x1 x2 y0 y1 y2 f0 f1 f2
  have HX3 := Aside0.mk hSw3
  clear hSw3
  refine plan_quiet (.agg #[.slice A0_0 l0_0.length c0_0, .slice A0_1 l0_1.length c0_1, .int .i64 a0_2]) rfl (fun w' hS => by have x0 := hb_cell hS 0; have x1 := hb_cell hS 1; have x2 := hb_cell hS 2; simp at x0 x1 x2; clear hS; go_simp) ?_
  simp only [planOps, List.getElem?_toArray, List.getElem?_cons_zero, List.getElem?_cons_succ, List.cons_append, List.nil_append, Act.put, List.setIfInBounds_toArray, List.set_cons_succ, List.set_cons_zero]
  refine plan_pure _ rfl (fun w' => by go_simp; rfl) ?_
  simp only [planOps, List.getElem?_toArray, List.getElem?_cons_zero, List.getElem?_cons_succ, List.cons_append, List.nil_append, Act.put, List.setIfInBounds_toArray, List.set_cons_succ, List.set_cons_zero]
  refine plan_pure _ rfl (fun w' => by go_simp; rfl) ?_
  simp only [planOps, List.getElem?_toArray, List.getElem?_cons_zero, List.getElem?_cons_succ, List.cons_append, List.nil_append, Act.put, List.setIfInBounds_toArray, List.set_cons_succ, List.set_cons_zero]
  refine plan_call Try.func37 (by kernel_rfl) rfl #[.slice A2 64 c2] rfl rfl (by simp [Act.eval]) ?_
  refine (HCB.out _ HB3.out).mono ?_
  rintro e w4 ⟨dv, rfl, hd, hb4⟩
  refine ⟨dv, rfl, blk_below HX3.out hb4, ?_⟩
  have HB4 := Aside0.mk (below_step HB3.out hb4)
  have HZ4 := Aside0.mk (blk_below HZ3.out hb4)
  have HDV := Aside0.mk (Kd.R_lower hd HB3.out.size)
  clear hd hb4
  obtain ⟨Ad, cd, rfl⟩ := Kd.R_slice HDV.out
  simp only [planOps, List.getElem?_toArray, List.getElem?_cons_zero, List.getElem?_cons_succ, List.cons_append, List.nil_append, Act.put, List.setIfInBounds_toArray, List.set_cons_succ, List.set_cons_zero]
  refine plan_pure (.agg #[.int .i64 1, .int .i64 a1, .slice Ad l2.length cd]) rfl (fun w' => by go_simp) ?_
  simp only [planOps, List.getElem?_toArray, List.getElem?_cons_zero, List.getElem?_cons_succ, List.cons_append, List.nil_append, Act.put, List.setIfInBounds_toArray, List.set_cons_succ, List.set_cons_zero]
  refine plan_callL Try.func36 (by kernel_rfl) rfl #[.agg #[.slice A0_0 l0_0.length c0_0, .slice A0_1 l0_1.length c0_1, .int .i64 a0_2], .agg #[.int .i64 1, .int .i64 a1, .slice Ad l2.length cd]] rfl rfl (by simp [Act.eval]) ?_
  refine (HWT.out w4 HB4.out _ HDV.out).mono ?_
  rintro e w5 ⟨v0, v1, us, ws, rfl, o0, o1, nst, hb5⟩
  refine ⟨_, rfl, ?_⟩
  obtain ⟨B0, k0, rfl⟩ := own_slice o0
  obtain ⟨B1, k1, rfl⟩ := own_slice o1
  have hl0 : us.length = l0_0.length := by have := o0.1; omega
  have S0 := Aside0.mk (Nest.asS (nst.left hl0) rfl (by rw [hl0]; exact o0) (by decide : 5 ≠ 26))
  have S1 := Aside0.mk (acts_S (l := l0_1 ++ [⟨1, a1, l2⟩]) (by rw [List.length_append]; exact o1) (by simpa using nst.right hl0))
  have HZ5 := Aside0.mk (blk_below HZ4.out hb5)
  have HB5 := Aside0.mk (below_step HB4.out hb5)
  clear o0 o1 nst hb5
  simp only [planOps, List.getElem?_toArray, List.getElem?_cons_zero, List.getElem?_cons_succ, List.cons_append, List.nil_append, Act.put, List.setIfInBounds_toArray, List.set_cons_succ, List.set_cons_zero]
  have x0 := hb_cell HZ5.out 0
  have x1 := hb_cell HZ5.out 1
  have x2 := hb_cell HZ5.out 2
  simp at x0 x1 x2
  have f0 := hb_free HZ5.out 0
  have f1 := hb_free HZ5.out 1
  have f2 := hb_free HZ5.out 2
  refine plan_skip rfl rfl (by go_simp; rfl) ?_
  refine plan_pure _ rfl (fun w' => by go_simp; rfl) ?_
  refine plan_nil ?_
  obtain ⟨W6, hW6, q0, y0, y1, y2, hoth, hbl⟩ := set3 HZ5.out (.slice B0 l0_0.length k0) (.slice B1 (l0_1.length + 1) k1) (.int .i64 a0_2)
  have hfin : Kd.S (Kd.slice 5 (Kd.int .u8)) 26 W6 w.heap.size (fun _ => True) (.slice B0 l0_0.length k0) l0_0 ∧ Kd.S k55 55 W6 w.heap.size (fun _ => True) (.slice B1 (l0_1.length + 1) k1) (l0_1 ++ [⟨1, a1, l2⟩]) ∧ Below w.heap.size w W6 := by
    refine ⟨Kd.S_mono (Kd.S_step (Kd.S_types S0.out HZ5.out (by decide)) (fun k hk _ => hoth k hk.2)) (fun _ _ => trivial), Kd.S_mono (Kd.S_step (Kd.S_types S1.out HZ5.out (by decide)) (fun k hk _ => hoth k hk.2)) (fun _ _ => trivial), hbl w HB5.out (by omega)⟩
  have HFIN := Aside0.mk hfin
  clear hfin hoth hbl q0 x0 x1 x2 f0 f1 f2
  rw [← hW6]
  clear hW6
  go_wp2
  exact bodyPost_ret (v := .tuple #[.agg #[.slice B0 l0_0.length k0, .slice B1 (l0_1.length + 1) k1, .int .i64 a0_2], .int .i64 0]) (by simp [results, Try.results12, go_sem, y0, y1, y2]) rfl ⟨_, _, rfl, HFIN.out⟩
/-- What a write makes of a host. -/
def host_Write.spec (l0_0 : List (List Int)) (l0_1 : List (S55)) (a0_2 : Int) (a1 : Int) (l2 : List Int) : (List (List Int)) × (List (S55)) × Int × Int :=
  if host_Check.chk l0_0 l0_1 a0_2 ≠ 0 then ([], [], 0, 9) else if a1 < 0 ∨ host_Read.sizeGo (l0_0.length : Int) l0_1 ≤ a1 then ([], [], 0, 4) else if l2.length ≠ 64 then ([], [], 0, 1) else if l0_1.length = 4096 then ([], [], 0, 51) else (l0_0, l0_1 ++ [⟨1, a1, l2⟩], a0_2, 0)
def host_Write.f (l0_0 : List (List Int)) (l0_1 : List (S55)) (a0_2 : Int) (a1 : Int) (l2 : List Int) : Option ((List (List Int)) × (List (S55)) × Int × Int) := some (host_Write.spec l0_0 l0_1 a0_2 a1 l2)
theorem host_Write.nine {ss : List (List Int)} {ws : List S55} {cap : Int} (hc : ¬ host_Check.chk ss ws cap = 0) : host_Check.chk ss ws cap = 9 := by
  unfold host_Check.chk at hc ⊢
  split
  · rfl
  · rename_i hn
    rw [if_neg hn] at hc
    exact absurd rfl hc
theorem host_Write.calls (A0_0 : Option Addr) (c0_0 : Nat) (l0_0 : List (List Int)) (A0_1 : Option Addr) (c0_1 : Nat) (l0_1 : List (S55)) (a0_2 : Int) (a1 : Int) (A2 : Option Addr) (c2 : Nat) (l2 : List Int) (r1 : List (List Int)) (r2 : List (S55)) (r3 : Int) (r4 : Int) (w : World) (hr0_0 : Kd.C (Kd.slice 5 (Kd.int .u8)) w A0_0 l0_0.length l0_0) (hc0_0 : l0_0.length ≤ c0_0) (hr0_1 : Kd.C k55 w A0_1 l0_1.length l0_1) (hc0_1 : l0_1.length ≤ c0_1) (hr2 : Kd.C (Kd.int .u8) w A2 l2.length l2) (hc2 : l2.length ≤ c2) (h : host_Write.f l0_0 l0_1 a0_2 a1 l2 = some (r1, r2, r3, r4)) :
    Calls Try.prog 12 #[.agg #[.slice A0_0 l0_0.length c0_0, .slice A0_1 l0_1.length c0_1, .int .i64 a0_2], .int .i64 a1, .slice A2 l2.length c2] w fun e w' => ∃ v0_ v1_ : Value, e = .returned (.tuple #[.agg #[v0_, v1_, .int .i64 r3], .int .i64 r4]) ∧ Kd.S (Kd.slice 5 (Kd.int .u8)) 26 w' w.heap.size (fun _ => True) v0_ r1 ∧ Kd.S k55 55 w' w.heap.size (fun _ => True) v1_ r2 ∧ Below w.heap.size w w' := by
  have h := Option.some.inj h
  unfold host_Write.spec at h
  have fin : ∀ (err : Int), (([], [], 0, err) : (List (List Int)) × (List (S55)) × Int × Int) = (r1, r2, r3, r4) → (Calls Try.prog 12 #[.agg #[.slice A0_0 l0_0.length c0_0, .slice A0_1 l0_1.length c0_1, .int .i64 a0_2], .int .i64 a1, .slice A2 l2.length c2] w fun e w' => e = .returned (.tuple #[.agg #[.slice none 0 0, .slice none 0 0, .int .i64 0], .int .i64 err]) ∧ Below w.heap.size w w') →
      Calls Try.prog 12 #[.agg #[.slice A0_0 l0_0.length c0_0, .slice A0_1 l0_1.length c0_1, .int .i64 a0_2], .int .i64 a1, .slice A2 l2.length c2] w fun e w' => ∃ v0_ v1_ : Value, e = .returned (.tuple #[.agg #[v0_, v1_, .int .i64 r3], .int .i64 r4]) ∧ Kd.S (Kd.slice 5 (Kd.int .u8)) 26 w' w.heap.size (fun _ => True) v0_ r1 ∧ Kd.S k55 55 w' w.heap.size (fun _ => True) v1_ r2 ∧ Below w.heap.size w w' := by
    intro err he hC
    simp only [Prod.mk.injEq] at he
    obtain ⟨rfl, rfl, rfl, rfl⟩ := he
    refine hC.mono ?_
    rintro e w' ⟨rfl, bel⟩
    exact ⟨_, _, rfl, Kd.S_nil _ _ _ _ _, Kd.S_nil _ _ _ _ _, bel⟩
  by_cases hc : host_Check.chk l0_0 l0_1 a0_2 = 0
  · rw [if_neg (by simpa using hc)] at h
    by_cases ha : a1 < 0
    · rw [if_pos (.inl ha)] at h
      exact fin 4 h (host_Write.low A0_0 c0_0 l0_0 A0_1 c0_1 l0_1 a0_2 a1 A2 c2 l2 w hr0_0 hc0_0 hr0_1 hc0_1 hc ha)
    · by_cases hs : host_Read.sizeGo (l0_0.length : Int) l0_1 ≤ a1
      · rw [if_pos (.inr hs)] at h
        exact fin 4 h (host_Write.high A0_0 c0_0 l0_0 A0_1 c0_1 l0_1 a0_2 a1 A2 c2 l2 w hr0_0 hc0_0 hr0_1 hc0_1 hc (by omega) hs)
      · rw [if_neg (by omega)] at h
        by_cases hl : l2.length = 64
        · rw [if_neg (by simpa using hl)] at h
          by_cases hf : l0_1.length = 4096
          · rw [if_pos hf] at h
            exact fin 51 h (host_Write.full A0_0 c0_0 l0_0 A0_1 c0_1 l0_1 a0_2 a1 A2 c2 l2 w hr0_0 hc0_0 hr0_1 hc0_1 hc (by omega) hs hl hf)
          · rw [if_neg hf] at h
            simp only [Prod.mk.injEq] at h
            obtain ⟨rfl, rfl, rfl, rfl⟩ := h
            exact host_Write.good A0_0 c0_0 l0_0 A0_1 c0_1 l0_1 a0_2 a1 A2 c2 l2 w hr0_0 hc0_0 hr0_1 hc0_1 hr2 hc2 hc (by omega) hs hl hf
        · rw [if_pos hl] at h
          exact fin 1 h (host_Write.arg A0_0 c0_0 l0_0 A0_1 c0_1 l0_1 a0_2 a1 A2 c2 l2 w hr0_0 hc0_0 hr0_1 hc0_1 hc (by omega) hs hl)
  · rw [if_pos (by simpa using hc)] at h
    exact fin 9 h (host_Write.bad A0_0 c0_0 l0_0 A0_1 c0_1 l0_1 a0_2 a1 A2 c2 l2 w hr0_0 hc0_0 hr0_1 hc0_1 (host_Write.nine hc))

set_option maxRecDepth 100000 in
theorem host_Resize.bad (A0_0 : Option Addr) (c0_0 : Nat) (l0_0 : List (List Int)) (A0_1 : Option Addr) (c0_1 : Nat) (l0_1 : List (S55)) (a0_2 : Int) (a1 : Int) (w : World) (hr0_0 : Kd.C (Kd.slice 5 (Kd.int .u8)) w A0_0 l0_0.length l0_0) (hc0_0 : l0_0.length ≤ c0_0) (hr0_1 : Kd.C k55 w A0_1 l0_1.length l0_1) (hc0_1 : l0_1.length ≤ c0_1) (hc : host_Check.chk l0_0 l0_1 a0_2 = 9) :
    Calls Try.prog 27 #[.agg #[.slice A0_0 l0_0.length c0_0, .slice A0_1 l0_1.length c0_1, .int .i64 a0_2], .int .i64 a1] w fun e w' => e = .returned (.tuple #[.agg #[.slice none 0 0, .slice none 0 0, .int .i64 0], .int .i64 9]) ∧ Below w.heap.size w w' := by
  have HCH := Aside0.mk (fun W hW => host_Check.calls A0_0 c0_0 l0_0 A0_1 c0_1 l0_1 a0_2 9 W (Kd.C_below hr0_0 hW) hc0_0 (Kd.C_below hr0_1 hW) hc0_1 (by unfold host_Check.f; rw [hc]))
  clear hc
  have HB := Aside0.mk (below_alloc (below_alloc (Below.refl w.heap.size w) (.cells #[.slice A0_0 l0_0.length c0_0, .slice A0_1 l0_1.length c0_1, .int .i64 a0_2] 30)) (.cells #[.slice none 0 0, .slice none 0 0, .int .i64 0] 30))
  have hz := hb_new (w.alloc (.cells #[.slice A0_0 l0_0.length c0_0, .slice A0_1 l0_1.length c0_1, .int .i64 a0_2] 30)) #[.slice none 0 0, .slice none 0 0, .int .i64 0] 30
  rw [show (w.alloc (.cells #[.slice A0_0 l0_0.length c0_0, .slice A0_1 l0_1.length c0_1, .int .i64 a0_2] 30)).heap.size = w.heap.size + 1 by simp] at hz
  have HZ := Aside0.mk hz
  have HX := Aside0.mk (show ((w.alloc (.cells #[.slice A0_0 l0_0.length c0_0, .slice A0_1 l0_1.length c0_1, .int .i64 a0_2] 30)).alloc (.cells #[.slice none 0 0, .slice none 0 0, .int .i64 0] 30)).heap[w.heap.size]? = some (.cells #[.slice A0_0 l0_0.length c0_0, .slice A0_1 l0_1.length c0_1, .int .i64 a0_2] 30 (0, 0)) from (Below.heap_alloc _ _ _ (by simp)).trans (hb_new w _ _))
  clear hr0_0 hr0_1 hc0_0 hc0_1 hz
  go_enter Try.func27, Try.ntmps27
  go_wp2_with (first | (go_at_call 20; refine (HCH.out _ HB.out).mono ?_; rintro e w1 ⟨rfl, hb⟩; have HB1 := Aside0.mk (below_step HB.out hb); have HZ1 := Aside0.mk (blk_below HZ.out hb); have HX1 := Aside0.mk (blk_below HX.out hb); clear hb; have x0 := hb_cell HX1.out 0; have x1 := hb_cell HX1.out 1; have x2 := hb_cell HX1.out 2; simp at x0 x1 x2; have y0 := hb_cell HZ1.out 0; have y1 := hb_cell HZ1.out 1; have y2 := hb_cell HZ1.out 2; simp at y0 y1 y2; have f0 := hb_free HZ1.out 0; have f1 := hb_free HZ1.out 1; have f2 := hb_free HZ1.out 2))
  obtain ⟨W3, hW3, q0, r0, r1, r2, _, hbl⟩ := set3 HZ1.out (.slice none 0 0) (.slice none 0 0) (.int .i64 0)
  rw [← hW3]
  have HBL := Aside0.mk (hbl w HB1.out (by omega))
  clear hW3 q0 hbl x0 x1 x2 y0 y1 y2 f0 f1 f2
  exact bodyPost_ret (v := .tuple #[.agg #[.slice none 0 0, .slice none 0 0, .int .i64 0], .int .i64 9]) (by simp [results, Try.results27, go_sem, r0, r1, r2]) rfl ⟨rfl, HBL.out⟩
set_option maxRecDepth 100000 in
theorem host_Resize.low (A0_0 : Option Addr) (c0_0 : Nat) (l0_0 : List (List Int)) (A0_1 : Option Addr) (c0_1 : Nat) (l0_1 : List (S55)) (a0_2 : Int) (a1 : Int) (w : World) (hr0_0 : Kd.C (Kd.slice 5 (Kd.int .u8)) w A0_0 l0_0.length l0_0) (hc0_0 : l0_0.length ≤ c0_0) (hr0_1 : Kd.C k55 w A0_1 l0_1.length l0_1) (hc0_1 : l0_1.length ≤ c0_1) (hc : host_Check.chk l0_0 l0_1 a0_2 = 0) (ha : a1 < 0) :
    Calls Try.prog 27 #[.agg #[.slice A0_0 l0_0.length c0_0, .slice A0_1 l0_1.length c0_1, .int .i64 a0_2], .int .i64 a1] w fun e w' => e = .returned (.tuple #[.agg #[.slice none 0 0, .slice none 0 0, .int .i64 0], .int .i64 4]) ∧ Below w.heap.size w w' := by
  have HCH := Aside0.mk (fun W hW => host_Check.calls A0_0 c0_0 l0_0 A0_1 c0_1 l0_1 a0_2 0 W (Kd.C_below hr0_0 hW) hc0_0 (Kd.C_below hr0_1 hW) hc0_1 (by unfold host_Check.f; rw [hc]))
  clear hc
  have HB := Aside0.mk (below_alloc (below_alloc (Below.refl w.heap.size w) (.cells #[.slice A0_0 l0_0.length c0_0, .slice A0_1 l0_1.length c0_1, .int .i64 a0_2] 30)) (.cells #[.slice none 0 0, .slice none 0 0, .int .i64 0] 30))
  have hz := hb_new (w.alloc (.cells #[.slice A0_0 l0_0.length c0_0, .slice A0_1 l0_1.length c0_1, .int .i64 a0_2] 30)) #[.slice none 0 0, .slice none 0 0, .int .i64 0] 30
  rw [show (w.alloc (.cells #[.slice A0_0 l0_0.length c0_0, .slice A0_1 l0_1.length c0_1, .int .i64 a0_2] 30)).heap.size = w.heap.size + 1 by simp] at hz
  have HZ := Aside0.mk hz
  have HX := Aside0.mk (show ((w.alloc (.cells #[.slice A0_0 l0_0.length c0_0, .slice A0_1 l0_1.length c0_1, .int .i64 a0_2] 30)).alloc (.cells #[.slice none 0 0, .slice none 0 0, .int .i64 0] 30)).heap[w.heap.size]? = some (.cells #[.slice A0_0 l0_0.length c0_0, .slice A0_1 l0_1.length c0_1, .int .i64 a0_2] 30 (0, 0)) from (Below.heap_alloc _ _ _ (by simp)).trans (hb_new w _ _))
  clear hr0_0 hr0_1 hc0_0 hc0_1 hz
  have hab : decide (a1 < 0) = true := decide_eq_true ha
  clear ha
  go_enter Try.func27, Try.ntmps27
  go_wp2_with (first | (go_at_call 20; refine (HCH.out _ HB.out).mono ?_; rintro e w1 ⟨rfl, hb⟩; have HB1 := Aside0.mk (below_step HB.out hb); have HZ1 := Aside0.mk (blk_below HZ.out hb); have HX1 := Aside0.mk (blk_below HX.out hb); clear hb; have x0 := hb_cell HX1.out 0; have x1 := hb_cell HX1.out 1; have x2 := hb_cell HX1.out 2; simp at x0 x1 x2; have y0 := hb_cell HZ1.out 0; have y1 := hb_cell HZ1.out 1; have y2 := hb_cell HZ1.out 2; simp at y0 y1 y2; have f0 := hb_free HZ1.out 0; have f1 := hb_free HZ1.out 1; have f2 := hb_free HZ1.out 2))
  obtain ⟨W3, hW3, q0, r0, r1, r2, _, hbl⟩ := set3 HZ1.out (.slice none 0 0) (.slice none 0 0) (.int .i64 0)
  rw [← hW3]
  have HBL := Aside0.mk (hbl w HB1.out (by omega))
  clear hW3 q0 hbl x0 x1 x2 y0 y1 y2 f0 f1 f2
  exact bodyPost_ret (v := .tuple #[.agg #[.slice none 0 0, .slice none 0 0, .int .i64 0], .int .i64 4]) (by simp [results, Try.results27, go_sem, r0, r1, r2]) rfl ⟨rfl, HBL.out⟩
set_option maxRecDepth 100000 in
theorem host_Resize.over (A0_0 : Option Addr) (c0_0 : Nat) (l0_0 : List (List Int)) (A0_1 : Option Addr) (c0_1 : Nat) (l0_1 : List (S55)) (a0_2 : Int) (a1 : Int) (w : World) (hr0_0 : Kd.C (Kd.slice 5 (Kd.int .u8)) w A0_0 l0_0.length l0_0) (hc0_0 : l0_0.length ≤ c0_0) (hr0_1 : Kd.C k55 w A0_1 l0_1.length l0_1) (hc0_1 : l0_1.length ≤ c0_1) (hc : host_Check.chk l0_0 l0_1 a0_2 = 0) (ha : 0 ≤ a1) (hn : a0_2 < a1) :
    Calls Try.prog 27 #[.agg #[.slice A0_0 l0_0.length c0_0, .slice A0_1 l0_1.length c0_1, .int .i64 a0_2], .int .i64 a1] w fun e w' => e = .returned (.tuple #[.agg #[.slice none 0 0, .slice none 0 0, .int .i64 0], .int .i64 51]) ∧ Below w.heap.size w w' := by
  have HCH := Aside0.mk (fun W hW => host_Check.calls A0_0 c0_0 l0_0 A0_1 c0_1 l0_1 a0_2 0 W (Kd.C_below hr0_0 hW) hc0_0 (Kd.C_below hr0_1 hW) hc0_1 (by unfold host_Check.f; rw [hc]))
  clear hc
  have HB := Aside0.mk (below_alloc (below_alloc (Below.refl w.heap.size w) (.cells #[.slice A0_0 l0_0.length c0_0, .slice A0_1 l0_1.length c0_1, .int .i64 a0_2] 30)) (.cells #[.slice none 0 0, .slice none 0 0, .int .i64 0] 30))
  have hz := hb_new (w.alloc (.cells #[.slice A0_0 l0_0.length c0_0, .slice A0_1 l0_1.length c0_1, .int .i64 a0_2] 30)) #[.slice none 0 0, .slice none 0 0, .int .i64 0] 30
  rw [show (w.alloc (.cells #[.slice A0_0 l0_0.length c0_0, .slice A0_1 l0_1.length c0_1, .int .i64 a0_2] 30)).heap.size = w.heap.size + 1 by simp] at hz
  have HZ := Aside0.mk hz
  have HX := Aside0.mk (show ((w.alloc (.cells #[.slice A0_0 l0_0.length c0_0, .slice A0_1 l0_1.length c0_1, .int .i64 a0_2] 30)).alloc (.cells #[.slice none 0 0, .slice none 0 0, .int .i64 0] 30)).heap[w.heap.size]? = some (.cells #[.slice A0_0 l0_0.length c0_0, .slice A0_1 l0_1.length c0_1, .int .i64 a0_2] 30 (0, 0)) from (Below.heap_alloc _ _ _ (by simp)).trans (hb_new w _ _))
  clear hr0_0 hr0_1 hc0_0 hc0_1 hz
  have hab : decide (a1 < 0) = false := decide_eq_false (by omega)
  have hnb : decide (a0_2 < a1) = true := decide_eq_true hn
  clear ha hn
  go_enter Try.func27, Try.ntmps27
  go_wp2_with (first | (go_at_call 20; refine (HCH.out _ HB.out).mono ?_; rintro e w1 ⟨rfl, hb⟩; have HB1 := Aside0.mk (below_step HB.out hb); have HZ1 := Aside0.mk (blk_below HZ.out hb); have HX1 := Aside0.mk (blk_below HX.out hb); clear hb; have x0 := hb_cell HX1.out 0; have x1 := hb_cell HX1.out 1; have x2 := hb_cell HX1.out 2; simp at x0 x1 x2; have y0 := hb_cell HZ1.out 0; have y1 := hb_cell HZ1.out 1; have y2 := hb_cell HZ1.out 2; simp at y0 y1 y2; have f0 := hb_free HZ1.out 0; have f1 := hb_free HZ1.out 1; have f2 := hb_free HZ1.out 2))
  obtain ⟨W3, hW3, q0, r0, r1, r2, _, hbl⟩ := set3 HZ1.out (.slice none 0 0) (.slice none 0 0) (.int .i64 0)
  rw [← hW3]
  have HBL := Aside0.mk (hbl w HB1.out (by omega))
  clear hW3 q0 hbl x0 x1 x2 y0 y1 y2 f0 f1 f2
  exact bodyPost_ret (v := .tuple #[.agg #[.slice none 0 0, .slice none 0 0, .int .i64 0], .int .i64 51]) (by simp [results, Try.results27, go_sem, r0, r1, r2]) rfl ⟨rfl, HBL.out⟩
set_option maxRecDepth 100000 in
theorem host_Resize.full (A0_0 : Option Addr) (c0_0 : Nat) (l0_0 : List (List Int)) (A0_1 : Option Addr) (c0_1 : Nat) (l0_1 : List (S55)) (a0_2 : Int) (a1 : Int) (w : World) (hr0_0 : Kd.C (Kd.slice 5 (Kd.int .u8)) w A0_0 l0_0.length l0_0) (hc0_0 : l0_0.length ≤ c0_0) (hr0_1 : Kd.C k55 w A0_1 l0_1.length l0_1) (hc0_1 : l0_1.length ≤ c0_1) (hc : host_Check.chk l0_0 l0_1 a0_2 = 0) (ha : 0 ≤ a1) (hn : ¬ a0_2 < a1) (hf : l0_1.length = 4096) :
    Calls Try.prog 27 #[.agg #[.slice A0_0 l0_0.length c0_0, .slice A0_1 l0_1.length c0_1, .int .i64 a0_2], .int .i64 a1] w fun e w' => e = .returned (.tuple #[.agg #[.slice none 0 0, .slice none 0 0, .int .i64 0], .int .i64 51]) ∧ Below w.heap.size w w' := by
  have HCH := Aside0.mk (fun W hW => host_Check.calls A0_0 c0_0 l0_0 A0_1 c0_1 l0_1 a0_2 0 W (Kd.C_below hr0_0 hW) hc0_0 (Kd.C_below hr0_1 hW) hc0_1 (by unfold host_Check.f; rw [hc]))
  clear hc
  have HB := Aside0.mk (below_alloc (below_alloc (Below.refl w.heap.size w) (.cells #[.slice A0_0 l0_0.length c0_0, .slice A0_1 l0_1.length c0_1, .int .i64 a0_2] 30)) (.cells #[.slice none 0 0, .slice none 0 0, .int .i64 0] 30))
  have hz := hb_new (w.alloc (.cells #[.slice A0_0 l0_0.length c0_0, .slice A0_1 l0_1.length c0_1, .int .i64 a0_2] 30)) #[.slice none 0 0, .slice none 0 0, .int .i64 0] 30
  rw [show (w.alloc (.cells #[.slice A0_0 l0_0.length c0_0, .slice A0_1 l0_1.length c0_1, .int .i64 a0_2] 30)).heap.size = w.heap.size + 1 by simp] at hz
  have HZ := Aside0.mk hz
  have HX := Aside0.mk (show ((w.alloc (.cells #[.slice A0_0 l0_0.length c0_0, .slice A0_1 l0_1.length c0_1, .int .i64 a0_2] 30)).alloc (.cells #[.slice none 0 0, .slice none 0 0, .int .i64 0] 30)).heap[w.heap.size]? = some (.cells #[.slice A0_0 l0_0.length c0_0, .slice A0_1 l0_1.length c0_1, .int .i64 a0_2] 30 (0, 0)) from (Below.heap_alloc _ _ _ (by simp)).trans (hb_new w _ _))
  clear hr0_0 hr0_1 hc0_0 hc0_1 hz
  have hab : decide (a1 < 0) = false := decide_eq_false (by omega)
  have hnb : decide (a0_2 < a1) = false := decide_eq_false hn
  have hfb : ((l0_1.length : Int) == 4096) = true := by simp; omega
  clear ha hn hf
  go_enter Try.func27, Try.ntmps27
  go_wp2_with (first | (go_at_call 20; refine (HCH.out _ HB.out).mono ?_; rintro e w1 ⟨rfl, hb⟩; have HB1 := Aside0.mk (below_step HB.out hb); have HZ1 := Aside0.mk (blk_below HZ.out hb); have HX1 := Aside0.mk (blk_below HX.out hb); clear hb; have x0 := hb_cell HX1.out 0; have x1 := hb_cell HX1.out 1; have x2 := hb_cell HX1.out 2; simp at x0 x1 x2; have y0 := hb_cell HZ1.out 0; have y1 := hb_cell HZ1.out 1; have y2 := hb_cell HZ1.out 2; simp at y0 y1 y2; have f0 := hb_free HZ1.out 0; have f1 := hb_free HZ1.out 1; have f2 := hb_free HZ1.out 2))
  obtain ⟨W3, hW3, q0, r0, r1, r2, _, hbl⟩ := set3 HZ1.out (.slice none 0 0) (.slice none 0 0) (.int .i64 0)
  rw [← hW3]
  have HBL := Aside0.mk (hbl w HB1.out (by omega))
  clear hW3 q0 hbl x0 x1 x2 y0 y1 y2 f0 f1 f2
  exact bodyPost_ret (v := .tuple #[.agg #[.slice none 0 0, .slice none 0 0, .int .i64 0], .int .i64 51]) (by simp [results, Try.results27, go_sem, r0, r1, r2]) rfl ⟨rfl, HBL.out⟩
set_option maxRecDepth 100000 in
set_option maxHeartbeats 2000000 in
theorem host_Resize.good (A0_0 : Option Addr) (c0_0 : Nat) (l0_0 : List (List Int)) (A0_1 : Option Addr) (c0_1 : Nat) (l0_1 : List (S55)) (a0_2 : Int) (a1 : Int) (w : World) (hr0_0 : Kd.C (Kd.slice 5 (Kd.int .u8)) w A0_0 l0_0.length l0_0) (hc0_0 : l0_0.length ≤ c0_0) (hr0_1 : Kd.C k55 w A0_1 l0_1.length l0_1) (hc0_1 : l0_1.length ≤ c0_1) (hc : host_Check.chk l0_0 l0_1 a0_2 = 0) (ha : 0 ≤ a1) (hn : ¬ a0_2 < a1) (hf : ¬ l0_1.length = 4096) :
    Calls Try.prog 27 #[.agg #[.slice A0_0 l0_0.length c0_0, .slice A0_1 l0_1.length c0_1, .int .i64 a0_2], .int .i64 a1] w fun e w' => ∃ v0_ v1_ : Value, e = .returned (.tuple #[.agg #[v0_, v1_, .int .i64 a0_2], .int .i64 0]) ∧ Kd.S (Kd.slice 5 (Kd.int .u8)) 26 w' w.heap.size (fun _ => True) v0_ l0_0 ∧ Kd.S k55 55 w' w.heap.size (fun _ => True) v1_ (l0_1 ++ [⟨2, a1, []⟩]) ∧ Below w.heap.size w w' := by
  have hv := host_Write.valid hc
  have HCH := Aside0.mk (fun W hW => host_Check.calls A0_0 c0_0 l0_0 A0_1 c0_1 l0_1 a0_2 0 W (Kd.C_below hr0_0 hW) hc0_0 (Kd.C_below hr0_1 hW) hc0_1 (by unfold host_Check.f; rw [hc]))
  have HWT := Aside0.mk (fun W (hW : Below w.heap.size w W) => host_wait.strong w.heap.size A0_0 c0_0 l0_0 A0_1 c0_1 l0_1 a0_2 2 a1 (.slice none 0 0) [] W (Kd.C_below hr0_0 hW) (Kd.C_below hr0_1 hW) (by have := hv.1; omega) (by have := hv.2.1; omega) (fun x hx => by have := hv.2.2.1 x hx; omega) (fun a ha => by have := hv.2.2.2 a ha; omega) (Kd.R_nil _ _ _ _ _) hW.size)
  clear hc hv
  have HB := Aside0.mk (below_alloc (below_alloc (Below.refl w.heap.size w) (.cells #[.slice A0_0 l0_0.length c0_0, .slice A0_1 l0_1.length c0_1, .int .i64 a0_2] 30)) (.cells #[.slice none 0 0, .slice none 0 0, .int .i64 0] 30))
  have hz := hb_new (w.alloc (.cells #[.slice A0_0 l0_0.length c0_0, .slice A0_1 l0_1.length c0_1, .int .i64 a0_2] 30)) #[.slice none 0 0, .slice none 0 0, .int .i64 0] 30
  rw [show (w.alloc (.cells #[.slice A0_0 l0_0.length c0_0, .slice A0_1 l0_1.length c0_1, .int .i64 a0_2] 30)).heap.size = w.heap.size + 1 by simp] at hz
  have HZ := Aside0.mk hz
  have HX := Aside0.mk (show ((w.alloc (.cells #[.slice A0_0 l0_0.length c0_0, .slice A0_1 l0_1.length c0_1, .int .i64 a0_2] 30)).alloc (.cells #[.slice none 0 0, .slice none 0 0, .int .i64 0] 30)).heap[w.heap.size]? = some (.cells #[.slice A0_0 l0_0.length c0_0, .slice A0_1 l0_1.length c0_1, .int .i64 a0_2] 30 (0, 0)) from (Below.heap_alloc _ _ _ (by simp)).trans (hb_new w _ _))
  clear hr0_0 hr0_1 hc0_0 hc0_1 hz
  have hab : decide (a1 < 0) = false := decide_eq_false (by omega)
  have hnb : decide (a0_2 < a1) = false := decide_eq_false hn
  have hfb : ((l0_1.length : Int) == 4096) = false := by simp; omega
  clear ha hn hf
  go_enter Try.func27, Try.ntmps27
  go_wp2_with (first | (go_at_call 20; refine (HCH.out _ HB.out).mono ?_; rintro e w1 ⟨rfl, hb⟩; have HB1 := Aside0.mk (below_step HB.out hb); have HZ1 := Aside0.mk (blk_below HZ.out hb); have HX1 := Aside0.mk (blk_below HX.out hb); clear hb; have x0 := hb_cell HX1.out 0; have x1 := hb_cell HX1.out 1; have x2 := hb_cell HX1.out 2; simp at x0 x1 x2; have y0 := hb_cell HZ1.out 0; have y1 := hb_cell HZ1.out 1; have y2 := hb_cell HZ1.out 2; simp at y0 y1 y2; have f0 := hb_free HZ1.out 0; have f1 := hb_free HZ1.out 1; have f2 := hb_free HZ1.out 2))
  go_at_call 36
  refine (HWT.out _ HB1.out).mono ?_
  rintro e w5 ⟨v0, v1, us, ws, rfl, o0, o1, nst, hb5⟩
  clear x0 x1 x2 y0 y1 y2 f0 f1 f2
  obtain ⟨B0, k0, rfl⟩ := own_slice o0
  obtain ⟨B1, k1, rfl⟩ := own_slice o1
  have hl0 : us.length = l0_0.length := by (have := o0.1; omega)
  have S0 := Aside0.mk (Nest.asS (nst.left hl0) rfl (by rw [hl0]; exact o0) (by decide : 5 ≠ 26))
  have S1 := Aside0.mk (acts_S (l := l0_1 ++ [⟨2, a1, []⟩]) (by rw [List.length_append]; exact o1) (by simpa using nst.right hl0))
  have HZ5 := Aside0.mk (blk_below HZ1.out hb5)
  have HB5 := Aside0.mk (below_step HB1.out hb5)
  clear o0 o1 nst hb5
  have y0 := hb_cell HZ5.out 0
  have y1 := hb_cell HZ5.out 1
  have y2 := hb_cell HZ5.out 2
  simp at y0 y1 y2
  have f0 := hb_free HZ5.out 0
  have f1 := hb_free HZ5.out 1
  have f2 := hb_free HZ5.out 2
  go_wp2

  obtain ⟨W6, hW6, q0, r0, r1, r2, hoth, hbl⟩ := set3 HZ5.out (.slice B0 l0_0.length k0) (.slice B1 (l0_1.length + 1) k1) (.int .i64 a0_2)
  have hfin : Kd.S (Kd.slice 5 (Kd.int .u8)) 26 W6 w.heap.size (fun _ => True) (.slice B0 l0_0.length k0) l0_0 ∧ Kd.S k55 55 W6 w.heap.size (fun _ => True) (.slice B1 (l0_1.length + 1) k1) (l0_1 ++ [⟨2, a1, []⟩]) ∧ Below w.heap.size w W6 := by
    refine ⟨Kd.S_mono (Kd.S_step (Kd.S_types S0.out HZ5.out (by decide)) (fun k hk _ => hoth k hk.2)) (fun _ _ => trivial), Kd.S_mono (Kd.S_step (Kd.S_types S1.out HZ5.out (by decide)) (fun k hk _ => hoth k hk.2)) (fun _ _ => trivial), hbl w HB5.out (by omega)⟩
  have HFIN := Aside0.mk hfin
  clear hfin hoth hbl q0 y0 y1 y2 f0 f1 f2
  rw [← hW6]
  clear hW6
  exact bodyPost_ret (v := .tuple #[.agg #[.slice B0 l0_0.length k0, .slice B1 (l0_1.length + 1) k1, .int .i64 a0_2], .int .i64 0]) (by simp [results, Try.results27, go_sem, r0, r1, r2]) rfl ⟨_, _, rfl, HFIN.out⟩
/-- What a length makes of a host. -/
def host_Resize.spec (l0_0 : List (List Int)) (l0_1 : List (S55)) (a0_2 : Int) (a1 : Int) : (List (List Int)) × (List (S55)) × Int × Int :=
  if host_Check.chk l0_0 l0_1 a0_2 ≠ 0 then ([], [], 0, 9) else if a1 < 0 then ([], [], 0, 4) else if a0_2 < a1 ∨ l0_1.length = 4096 then ([], [], 0, 51) else (l0_0, l0_1 ++ [⟨2, a1, []⟩], a0_2, 0)
def host_Resize.f (l0_0 : List (List Int)) (l0_1 : List (S55)) (a0_2 : Int) (a1 : Int) : Option ((List (List Int)) × (List (S55)) × Int × Int) := some (host_Resize.spec l0_0 l0_1 a0_2 a1)
theorem host_Resize.calls (A0_0 : Option Addr) (c0_0 : Nat) (l0_0 : List (List Int)) (A0_1 : Option Addr) (c0_1 : Nat) (l0_1 : List (S55)) (a0_2 : Int) (a1 : Int) (r1 : List (List Int)) (r2 : List (S55)) (r3 : Int) (r4 : Int) (w : World) (hr0_0 : Kd.C (Kd.slice 5 (Kd.int .u8)) w A0_0 l0_0.length l0_0) (hc0_0 : l0_0.length ≤ c0_0) (hr0_1 : Kd.C k55 w A0_1 l0_1.length l0_1) (hc0_1 : l0_1.length ≤ c0_1) (h : host_Resize.f l0_0 l0_1 a0_2 a1 = some (r1, r2, r3, r4)) :
    Calls Try.prog 27 #[.agg #[.slice A0_0 l0_0.length c0_0, .slice A0_1 l0_1.length c0_1, .int .i64 a0_2], .int .i64 a1] w fun e w' => ∃ v0_ v1_ : Value, e = .returned (.tuple #[.agg #[v0_, v1_, .int .i64 r3], .int .i64 r4]) ∧ Kd.S (Kd.slice 5 (Kd.int .u8)) 26 w' w.heap.size (fun _ => True) v0_ r1 ∧ Kd.S k55 55 w' w.heap.size (fun _ => True) v1_ r2 ∧ Below w.heap.size w w' := by
  have h := Option.some.inj h
  unfold host_Resize.spec at h
  have fin : ∀ (err : Int), (([], [], 0, err) : (List (List Int)) × (List (S55)) × Int × Int) = (r1, r2, r3, r4) → (Calls Try.prog 27 #[.agg #[.slice A0_0 l0_0.length c0_0, .slice A0_1 l0_1.length c0_1, .int .i64 a0_2], .int .i64 a1] w fun e w' => e = .returned (.tuple #[.agg #[.slice none 0 0, .slice none 0 0, .int .i64 0], .int .i64 err]) ∧ Below w.heap.size w w') →
      Calls Try.prog 27 #[.agg #[.slice A0_0 l0_0.length c0_0, .slice A0_1 l0_1.length c0_1, .int .i64 a0_2], .int .i64 a1] w fun e w' => ∃ v0_ v1_ : Value, e = .returned (.tuple #[.agg #[v0_, v1_, .int .i64 r3], .int .i64 r4]) ∧ Kd.S (Kd.slice 5 (Kd.int .u8)) 26 w' w.heap.size (fun _ => True) v0_ r1 ∧ Kd.S k55 55 w' w.heap.size (fun _ => True) v1_ r2 ∧ Below w.heap.size w w' := by
    intro err he hC
    simp only [Prod.mk.injEq] at he
    obtain ⟨rfl, rfl, rfl, rfl⟩ := he
    refine hC.mono ?_
    rintro e w' ⟨rfl, bel⟩
    exact ⟨_, _, rfl, Kd.S_nil _ _ _ _ _, Kd.S_nil _ _ _ _ _, bel⟩
  by_cases hc : host_Check.chk l0_0 l0_1 a0_2 = 0
  · rw [if_neg (by simpa using hc)] at h
    by_cases ha : a1 < 0
    · rw [if_pos ha] at h
      exact fin 4 h (host_Resize.low A0_0 c0_0 l0_0 A0_1 c0_1 l0_1 a0_2 a1 w hr0_0 hc0_0 hr0_1 hc0_1 hc ha)
    · rw [if_neg ha] at h
      by_cases hn : a0_2 < a1
      · rw [if_pos (.inl hn)] at h
        exact fin 51 h (host_Resize.over A0_0 c0_0 l0_0 A0_1 c0_1 l0_1 a0_2 a1 w hr0_0 hc0_0 hr0_1 hc0_1 hc (by omega) hn)
      · by_cases hf : l0_1.length = 4096
        · rw [if_pos (.inr hf)] at h
          exact fin 51 h (host_Resize.full A0_0 c0_0 l0_0 A0_1 c0_1 l0_1 a0_2 a1 w hr0_0 hc0_0 hr0_1 hc0_1 hc (by omega) hn hf)
        · rw [if_neg (by omega)] at h
          simp only [Prod.mk.injEq] at h
          obtain ⟨rfl, rfl, rfl, rfl⟩ := h
          exact host_Resize.good A0_0 c0_0 l0_0 A0_1 c0_1 l0_1 a0_2 a1 w hr0_0 hc0_0 hr0_1 hc0_1 hc (by omega) hn hf
  · rw [if_pos (by simpa using hc)] at h
    exact fin 9 h (host_Resize.bad A0_0 c0_0 l0_0 A0_1 c0_1 l0_1 a0_2 a1 w hr0_0 hc0_0 hr0_1 hc0_1 (host_Write.nine hc))

end Go.Proofs.Ytijmldjghhndoaa.Hy
