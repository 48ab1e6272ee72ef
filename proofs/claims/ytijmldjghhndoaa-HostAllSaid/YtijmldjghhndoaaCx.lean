import Derived.IntWalk
import Derived.Outline
import Derived.Test.YtijmldjghhndoaaCa
import Derived.Test.YtijmldjghhndoaaCc
import Derived.Test.YtijmldjghhndoaaHelp
import Derived.Test.YtijmldjghhndoaaNest
import Derived.Test.YtijmldjghhndoaaPl
import Derived.Test.YtijmldjghhndoaaPlan
namespace Go.Proofs.Ytijmldjghhndoaa.Hy
open Go.RowKit Go.Proofs.YtijmldjghhndoaaW.PrintWords Go.Proofs.YtijmldjghhndoaaW.PrintLast Go.Proofs.YtijmldjghhndoaaW.PrintMore
attribute [local go_sem] max2_int min2_int max_two min_two max_three min_three max_four min_four   -- for this text's walks alone
set_option linter.unusedVariables false
set_option linter.unusedSimpArgs false
/-- An act of the page's as one of the program's. -/
def cv (a : S46) : S55 := ⟨a.f0, a.f1, a.f2⟩
theorem flagstoneref03_Check.turn {xs : List (List Int)} {i : Nat} (h : i < xs.length) : rd_L1 xs (i : Int) = xs[i] := by
  unfold rd_L1
  rw [Int.toNat_natCast, List.getD_eq_getElem?_getD, List.getElem?_eq_getElem h]
  rfl
theorem flagstoneref03_Check.act {xs : List S46} {i : Nat} (h : i < xs.length) : rd_T46 xs (i : Int) = xs[i] := by
  unfold rd_T46
  rw [Int.toNat_natCast, List.getD_eq_getElem?_getD, List.getElem?_eq_getElem h]
  rfl

theorem flagstoneplain_SameBytes.same (l : List Int) : flagstoneplain_SameBytes.f l l = some true := by
  unfold flagstoneplain_SameBytes.f
  simp
theorem flagstoneplain_CopyBytes.same (l : List Int) (h : l.length < 140737488355328) : flagstoneplain_CopyBytes.f l = some l := by
  unfold flagstoneplain_CopyBytes.f
  rw [if_pos (by simpa using h)]
  rfl
theorem flagstoneplain_SameList.turns (l : List (List Int)) (hl : l.length ≤ 5864062014805) : ∀ (n i : Nat), i + n = l.length → flagstoneplain_SameList.l0 (n + 1) l l i = some true
  | 0, i, h => by
    unfold flagstoneplain_SameList.l0
    rw [if_neg (by omega)]
  | n + 1, i, h => by
    unfold flagstoneplain_SameList.l0
    rw [if_pos (by omega), if_pos (by omega), if_pos (by omega), if_pos rfl, show wrap64 ((i : Int) + 1) = ((i + 1 : Nat) : Int) by rw [Pl.w64 (by omega) (by omega)]; omega]
    exact flagstoneplain_SameList.turns l hl n (i + 1) (by omega)
theorem flagstoneplain_SameList.same (l : List (List Int)) (hl : l.length ≤ 5864062014805) : flagstoneplain_SameList.f (l.length + 1) l l = some true := by
  unfold flagstoneplain_SameList.f
  rw [if_pos rfl]
  exact flagstoneplain_SameList.turns l hl l.length 0 (by omega)
theorem LeO.up {α : Type} {f : Nat → Option α} (hm : ∀ k, LeO (f k) (f (k + 1))) {k : Nat} {r : α} (h : f k = some r) : ∀ n, f (k + n) = some r
  | 0 => h
  | n + 1 => hm _ r (LeO.up hm h n)
theorem flagstoneplain_CopyList.turns (l : List (List Int)) (hl : l.length < 5864062014805) (hq : ∀ x ∈ l, x.length < 140737488355328) : ∀ (n i : Nat), i + n = l.length → flagstoneplain_CopyList.l0 (n + 1) l (l.take i) i = some l
  | 0, i, h => by
    unfold flagstoneplain_CopyList.l0
    rw [if_neg (by omega), List.take_of_length_le (by omega)]
  | n + 1, i, h => by
    have hi : i < l.length := by omega
    unfold flagstoneplain_CopyList.l0
    rw [if_pos (by omega), if_pos (by omega), flagstoneref03_Check.turn hi, flagstoneplain_CopyBytes.same _ (hq _ (List.getElem_mem hi)), Option.bind_some, if_pos (by simp; omega), show wrap64 ((i : Int) + 1) = ((i + 1 : Nat) : Int) by rw [Pl.w64 (by omega) (by omega)]; omega]
    have ht : l.take i ++ [l[i]] = l.take (i + 1) := by
      rw [List.take_add_one, List.getElem?_eq_getElem hi]
      rfl
    rw [ht]
    exact flagstoneplain_CopyList.turns l hl hq n (i + 1) (by omega)
theorem flagstoneplain_CopyList.same (l : List (List Int)) (hl : l.length < 5864062014805) (hq : ∀ x ∈ l, x.length < 140737488355328) : flagstoneplain_CopyList.f (l.length + 1) l = some l :=
  flagstoneplain_CopyList.turns l hl hq l.length 0 (by omega)
theorem flagstonelaw03_Of.turns (ss : List (List Int)) (ws : List S46) (cap : Int) (hl : ws.length < 3518437208883) (hr : ∀ a ∈ ws, a.f2.length < 140737488355328) : ∀ (n i : Nat), i + n = ws.length → flagstonelaw03_Of.l0 (n + 1) i ss ws cap ss ((ws.map cv).take i) cap = some (ss, ws.map cv, cap)
  | 0, i, h => by
    unfold flagstonelaw03_Of.l0
    rw [if_neg (by omega), List.take_of_length_le (by simp; omega)]
  | n + 1, i, h => by
    have hi : i < ws.length := by omega
    unfold flagstonelaw03_Of.l0
    rw [if_pos (by omega), if_pos (by omega), flagstoneref03_Check.act hi, flagstoneplain_CopyBytes.same _ (hr _ (List.getElem_mem hi)), Option.bind_some, if_pos (by simp; omega), show wrap64 ((i : Int) + 1) = ((i + 1 : Nat) : Int) by rw [Pl.w64 (by omega) (by omega)]; omega]
    have ht : (ws.map cv).take i ++ [⟨ws[i].f0, ws[i].f1, ws[i].f2⟩] = (ws.map cv).take (i + 1) := by
      rw [List.take_add_one, List.getElem?_map, List.getElem?_eq_getElem hi]
      rfl
    rw [ht]
    exact flagstonelaw03_Of.turns ss ws cap hl hr n (i + 1) (by omega)
theorem flagstonelaw03_Of.same (ss : List (List Int)) (ws : List S46) (cap : Int) (hs : ss.length < 5864062014805) (hl : ws.length < 3518437208883) (hq : ∀ x ∈ ss, x.length < 140737488355328) (hr : ∀ a ∈ ws, a.f2.length < 140737488355328) : ∃ k, flagstonelaw03_Of.f k ss ws cap = some (ss, ws.map cv, cap) := by
  refine ⟨(ss.length + 1) + (ws.length + 1), ?_⟩
  have h1 := LeO.up (f := fun k => flagstoneplain_CopyList.f k ss) (fun k => flagstoneplain_CopyList.mono ss k) (flagstoneplain_CopyList.same ss hs hq) (ws.length + 1)
  have h2 := LeO.up (f := fun k => flagstonelaw03_Of.l0 k 0 ss ws cap ss [] cap) (fun k => flagstonelaw03_Of.mono_l k 0 ss ws cap ss [] cap) (flagstonelaw03_Of.turns ss ws cap hl hr ws.length 0 (by omega)) (ss.length + 1)
  unfold flagstonelaw03_Of.f
  rw [h1, Option.bind_some, show ss.length + 1 + (ws.length + 1) = ws.length + 1 + (ss.length + 1) by omega]
  exact h2

theorem host_Check.fine {ss : List (List Int)} {ws : List S55} {cap : Int} (h1 : 1 ≤ cap) (h2 : cap ≤ 65536) (h3 : (ss.length : Int) ≤ cap) (h4 : ∀ x ∈ ss, x.length = 64) (h5 : ws.length ≤ 4096) (h6 : ∀ a ∈ ws, host_Check.may a.f0 a.f1 a.f2.length cap = true) : host_Check.chk ss ws cap = 0 := by
  unfold host_Check.chk
  rw [if_neg]
  rintro (q | q | q | q | q | q)
  · omega
  · omega
  · omega
  · obtain ⟨x, hx, hq⟩ := List.any_eq_true.1 q
    have := h4 x hx
    simp [this] at hq
  · omega
  · obtain ⟨a, ha, hq⟩ := List.any_eq_true.1 q
    unfold host_Check.badA at hq
    rw [h6 a ha] at hq
    cases hq
theorem host_Crash.doS_valid {ss : List (List Int)} {a : S55} {cap : Int} (h1 : (ss.length : Int) ≤ cap) (h2 : ∀ x ∈ ss, x.length = 64) (h3 : host_Check.may a.f0 a.f1 a.f2.length cap = true) : ((host_Crash.doS ss a).length : Int) ≤ cap ∧ ∀ x ∈ host_Crash.doS ss a, x.length = 64 := by
  unfold host_Check.may at h3
  simp only [Bool.or_eq_true, Bool.and_eq_true, decide_eq_true_eq] at h3
  unfold host_Crash.doS
  by_cases h0 : a.f0 = 2
  · rw [if_pos h0]
    refine ⟨by rw [List.length_append, List.length_take, List.length_replicate]; omega, fun x hx => ?_⟩
    rcases List.mem_append.1 hx with hx | hx
    · exact h2 x (List.mem_of_mem_take hx)
    · rw [List.eq_of_mem_replicate hx]
      simp [zeros64]
  · rw [if_neg h0]
    split
    · refine ⟨by rw [List.length_set]; exact h1, fun x hx => ?_⟩
      rcases List.mem_or_eq_of_mem_set hx with hx | rfl
      · exact h2 x hx
      · omega
    · exact ⟨h1, h2⟩
theorem host_Crash.run_valid {ss : List (List Int)} {ws : List S55} {cap : Int} (h : host_Check.chk ss ws cap = 0) (keep : List Bool) : ∀ i, i ≤ ws.length → ((host_Crash.run ss ws keep i).length : Int) ≤ cap ∧ ∀ x ∈ host_Crash.run ss ws keep i, x.length = 64
  | 0, _ => ⟨(host_Crash.valid h).2.2.1, (host_Crash.valid h).2.2.2.1⟩
  | i + 1, hi => by
    have ih := host_Crash.run_valid h keep i (by omega)
    unfold host_Crash.run
    split
    · have hg : ws.getD i z55 = ws[i] := by rw [List.getD_eq_getElem?_getD, List.getElem?_eq_getElem (by omega)]; rfl
      rw [hg]
      exact host_Crash.doS_valid ih.1 ih.2 ((host_Crash.valid h).2.2.2.2.2 _ (List.getElem_mem _))
    · exact ih
theorem host_Crash.run_chk {ss : List (List Int)} {ws : List S55} {cap : Int} (h : host_Check.chk ss ws cap = 0) (keep : List Bool) : host_Check.chk (host_Crash.run ss ws keep ws.length) [] cap = 0 := by
  have hv := host_Crash.valid h
  have hr := host_Crash.run_valid h keep ws.length (Nat.le_refl _)
  exact host_Check.fine hv.1 hv.2.1 hr.1 hr.2 (by simp) (fun a ha => by cases ha)
/-- All of it is done. -/
def host_Crash.full (ss : List (List Int)) (ws : List S55) : List (List Int) := host_Crash.run ss ws (List.replicate ws.length true) ws.length
theorem host_Flush.good {ss : List (List Int)} {ws : List S55} {cap : Int} (h : host_Check.chk ss ws cap = 0) : host_Flush.f ss ws cap = some (host_Crash.full ss ws, [], cap, 0) := by
  have := (host_Crash.valid h).2.2.2.2.1
  unfold host_Flush.f host_Crash.f
  rw [if_pos (by omega), if_pos h]
  rfl
theorem host_Crash.good_f {ss : List (List Int)} {ws : List S55} {cap : Int} (h : host_Check.chk ss ws cap = 0) (keep : List Bool) : host_Crash.f ss ws cap keep = some (host_Crash.run ss ws keep ws.length, [], cap, 0) := by
  unfold host_Crash.f
  rw [if_pos h]
theorem host_Flush.bad_f {ss : List (List Int)} {ws : List S55} {cap : Int} (hw : ws.length ≤ 140737488355328) (h : ¬ host_Check.chk ss ws cap = 0) : host_Flush.f ss ws cap = some ([], [], 0, 9) := by
  unfold host_Flush.f host_Crash.f
  rw [if_pos hw, if_neg h]
theorem host_Crash.bad_f {ss : List (List Int)} {ws : List S55} {cap : Int} (h : ¬ host_Check.chk ss ws cap = 0) (keep : List Bool) : host_Crash.f ss ws cap keep = some ([], [], 0, 9) := by
  unfold host_Crash.f
  rw [if_neg h]

theorem host_Crash.full_step {ss : List (List Int)} {ws : List S55} {i : Nat} (hi : i < ws.length) : host_Crash.run ss ws (List.replicate ws.length true) (i + 1) = host_Crash.doS (host_Crash.run ss ws (List.replicate ws.length true) i) ws[i] := by
  have e1 : ws.getD i z55 = ws[i] := by rw [List.getD_eq_getElem?_getD, List.getElem?_eq_getElem hi]; rfl
  have e3 : (List.replicate ws.length true).getD i false = true := by rw [List.getD_eq_getElem?_getD, List.getElem?_replicate_of_lt hi]; rfl
  rw [host_Crash.run, e3, if_pos rfl, e1]
theorem host_Crash.doS_len {ss : List (List Int)} {a : S55} (h : 0 ≤ a.f1) : ((host_Crash.doS ss a).length : Int) = if a.f0 = 2 then a.f1 else (ss.length : Int) := by
  unfold host_Crash.doS
  by_cases h0 : a.f0 = 2
  · rw [if_pos h0, if_pos h0, List.length_append, List.length_take, List.length_replicate]
    omega
  · rw [if_neg h0, if_neg h0]
    split
    · rw [List.length_set]
    · rfl
theorem host_Read.size_run {ss : List (List Int)} {ws : List S55} (hw : ∀ a ∈ ws, 0 ≤ a.f1) : ∀ i, i ≤ ws.length → host_Read.sizeGo (ss.length : Int) (ws.take i) = ((host_Crash.run ss ws (List.replicate ws.length true) i).length : Int)
  | 0, _ => rfl
  | i + 1, hi => by
    have ih := host_Read.size_run (ss := ss) hw i (by omega)
    rw [host_Crash.full_step (by omega), host_Crash.doS_len (hw _ (List.getElem_mem _)), List.take_add_one, List.getElem?_eq_getElem (by omega), Option.toList_some, host_Read.sizeGo_snoc, ih]
theorem host_Read.size_full {ss : List (List Int)} {ws : List S55} (hw : ∀ a ∈ ws, 0 ≤ a.f1) : host_Read.sizeGo (ss.length : Int) ws = ((host_Crash.full ss ws).length : Int) := by
  have := host_Read.size_run (ss := ss) hw ws.length (Nat.le_refl _)
  rwa [List.take_length] at this
/-- What a sector is on the way. -/
def host_Read.now (n : Nat) (l : List (List Int)) : Bool × List Int := (decide ((n : Int) < (l.length : Int)), if (n : Int) < (l.length : Int) then l.getD n [] else zeros64')
theorem host_Read.step_now {n : Nat} {l : List (List Int)} {a : S55} (h : 0 ≤ a.f1) : host_Read.step (n : Int) (host_Read.now n l) a = host_Read.now n (host_Crash.doS l a) := by
  have hlen := host_Crash.doS_len (ss := l) h
  unfold host_Read.step
  by_cases h0 : a.f0 = 2
  · rw [if_pos h0] at hlen ⊢
    obtain ⟨m, hm⟩ := Pl.nat_of h
    have hd : host_Crash.doS l a = l.take m ++ List.replicate (m - l.length) zeros64 := by
      unfold host_Crash.doS
      rw [if_pos h0, hm, Int.toNat_natCast]
    unfold host_Read.now
    rw [hlen, hd, hm]
    refine Prod.ext rfl ?_
    by_cases h1 : (n : Int) < (m : Int)
    · by_cases h2 : (n : Int) < (l.length : Int)
      · simp only [h1, h2, decide_true, and_self, if_true]
        rw [List.getD_eq_getElem?_getD, List.getD_eq_getElem?_getD, List.getElem?_append_left (by simp; omega), List.getElem?_take_of_lt (by omega)]
      · simp only [h1, h2, decide_false, Bool.false_eq_true, and_false, if_false, if_true]
        rw [List.getD_eq_getElem?_getD, List.getElem?_append_right (by simp; omega), List.getElem?_replicate_of_lt (by simp; omega)]
        rfl
    · simp only [h1, false_and, if_false]
  · rw [if_neg h0] at hlen ⊢
    have hd : host_Crash.doS l a = if a.f1 < (l.length : Int) then l.set a.f1.toNat a.f2 else l := by
      unfold host_Crash.doS
      rw [if_neg h0]
    unfold host_Read.now
    rw [hlen, hd]
    by_cases h2 : (n : Int) < (l.length : Int)
    · by_cases h3 : a.f1 = (n : Int)
      · simp only [h2, h3, decide_true, and_self, if_true, Int.toNat_natCast]
        rw [List.getD_eq_getElem?_getD, List.getElem?_set_self (by omega)]
        rfl
      · simp only [h2, h3, decide_true, false_and, if_false, if_true]
        refine Prod.ext rfl ?_
        simp only
        split
        · rw [List.getD_eq_getElem?_getD, List.getD_eq_getElem?_getD, List.getElem?_set_ne (by omega)]
        · rfl
    · simp only [h2, decide_false, Bool.false_eq_true, and_false, if_false]
theorem host_Read.go_run {ss : List (List Int)} {ws : List S55} (hw : ∀ a ∈ ws, 0 ≤ a.f1) (n : Nat) : ∀ i, i ≤ ws.length → host_Read.go (n : Int) (host_Read.now n ss) (ws.take i) = host_Read.now n (host_Crash.run ss ws (List.replicate ws.length true) i)
  | 0, _ => rfl
  | i + 1, hi => by
    have ih := host_Read.go_run (ss := ss) hw n i (by omega)
    rw [host_Crash.full_step (by omega), ← host_Read.step_now (hw _ (List.getElem_mem _)), ← ih, List.take_add_one, List.getElem?_eq_getElem (by omega), Option.toList_some]
    unfold host_Read.go
    rw [List.foldl_append]
    rfl
/-- What is read, by all that waits. -/
theorem host_Read.nice {ss : List (List Int)} {ws : List S55} {cap : Int} (h : host_Check.chk ss ws cap = 0) (n : Int) : host_Read.f ss ws cap n = some (if n < 0 ∨ ((host_Crash.full ss ws).length : Int) ≤ n then ([], 4) else ((host_Crash.full ss ws).getD n.toNat [], 0)) := by
  have hw : ∀ a ∈ ws, 0 ≤ a.f1 := fun a ha => (host_Crash.may ((host_Crash.valid h).2.2.2.2.2 a ha)).1
  unfold host_Read.f
  rw [if_neg (show ¬ (host_Check.chk ss ws cap ≠ 0) from fun q => q h), host_Read.size_full hw]
  by_cases h1 : n < 0 ∨ ((host_Crash.full ss ws).length : Int) ≤ n
  · rw [if_pos h1, if_pos h1]
  · rw [if_neg h1, if_neg h1]
    obtain ⟨m, rfl⟩ := Pl.nat_of (show 0 ≤ n by omega)
    have := host_Read.go_run (ss := ss) hw m ws.length (Nat.le_refl _)
    rw [List.take_length] at this
    unfold host_Read.now at this
    rw [Int.toNat_natCast, this]
    rw [show host_Crash.run ss ws (List.replicate ws.length true) ws.length = host_Crash.full ss ws from rfl, if_pos (by omega)]
theorem host_Crash.full_snoc (ss : List (List Int)) (ws : List S55) (a : S55) : host_Crash.full ss (ws ++ [a]) = host_Crash.doS (host_Crash.full ss ws) a := by
  have key : ∀ i, i ≤ ws.length → host_Crash.run ss (ws ++ [a]) (List.replicate (ws ++ [a]).length true) i = host_Crash.run ss ws (List.replicate ws.length true) i := by
    intro i
    induction i with
    | zero => intro _; rfl
    | succ i ih =>
      intro hi
      rw [host_Crash.full_step (by simp; omega), host_Crash.full_step (by omega), ih (by omega), List.getElem_append_left (by omega)]
  unfold host_Crash.full
  have h1 : (ws ++ [a]).length = ws.length + 1 := by simp
  have h2 := host_Crash.full_step (ss := ss) (ws := ws ++ [a]) (i := ws.length) (by omega)
  have h3 : host_Crash.run ss (ws ++ [a]) (List.replicate (ws ++ [a]).length true) (ws ++ [a]).length = host_Crash.run ss (ws ++ [a]) (List.replicate (ws ++ [a]).length true) (ws.length + 1) := by rw [h1]
  rw [h3, h2, key ws.length (Nat.le_refl _)]
  simp
theorem host_Crash.full_nil (ss : List (List Int)) : host_Crash.full ss [] = ss := rfl
/-- Another act that may be waits. -/
theorem host_Check.more {ss : List (List Int)} {ws : List S55} {cap : Int} (h : host_Check.chk ss ws cap = 0) (hl : ws.length ≠ 4096) (a : S55) (ha : host_Check.may a.f0 a.f1 a.f2.length cap = true) : host_Check.chk ss (ws ++ [a]) cap = 0 := by
  obtain ⟨h1, h2, h3, h4, h5, h6⟩ := host_Crash.valid h
  refine host_Check.fine h1 h2 h3 h4 (by simp; omega) (fun b hb => ?_)
  rcases List.mem_append.1 hb with hb | hb
  · exact h6 b hb
  · rw [List.mem_singleton] at hb
    subst hb
    exact ha

set_option maxRecDepth 100000 in
theorem flagstonelaw03_num.same (a : Int) (w : World) : Calls Try.prog 14 #[.int .i64 a] w fun e w' => e = .returned (.int .i64 a) ∧ w' = w := by
  go_enter Try.func14, Try.ntmps14
  go_wp2
  go_ret
  exact ⟨rfl, rfl⟩
set_option maxRecDepth 100000 in
theorem host_New.four (w : World) : Calls Try.prog 34 #[.int .i64 4] w fun e w' => e = .returned (.tuple #[.agg #[.slice none 0 0, .slice none 0 0, .int .i64 4], .int .i64 0]) ∧ Below w.heap.size w w' := by
  have hz := hb_new w #[.slice none 0 0, .slice none 0 0, .int .i64 4] 30
  have HB := Aside0.mk (below_alloc (Below.refl w.heap.size w) (.cells #[.slice none 0 0, .slice none 0 0, .int .i64 4] 30))
  have y0 := hb_cell hz 0
  have y1 := hb_cell hz 1
  have y2 := hb_cell hz 2
  simp only [List.getElem?_toArray, List.getElem?_cons_zero, List.getElem?_cons_succ] at y0 y1 y2
  go_enter Try.func34, Try.ntmps34
  go_wp2
  exact bodyPost_ret (v := .tuple #[.agg #[.slice none 0 0, .slice none 0 0, .int .i64 4], .int .i64 0]) (by simp [results, Try.results34, go_sem, y0, y1, y2]) rfl ⟨rfl, HB.out⟩
theorem addr0 (a : Addr) : a.add 0 = a := by unfold Addr.add; simp
theorem S_put3 {α : Type} {d : Kd α} {e t base g : Nat} {W W3 : World} {v : Value} {xs : List α} {cells : Array Value} (h : Kd.S d e W base (fun _ => True) v xs) (hx : W.heap[g]? = some (.cells cells t (0, 0))) (ht : ∀ q, q ∈ e :: d.E → q ≠ t) (hoth : ∀ k, k ≠ g → W3.heap[k]? = W.heap[k]?) : Kd.S d e W3 base (fun _ => True) v xs :=
  Kd.S_mono (Kd.S_step (Kd.S_types h hx ht) (fun k hk _ => hoth k hk.2)) (fun _ _ => trivial)
/-- The page's example, in numbers. -/
def one64 : List Int := 1 :: List.replicate 63 0
theorem flagstonelaw03_alive.facts : ∃ (s1 s2 s3 s4 : List (List Int)) (t1 t2 t3 t4 : List S55) (x y : List Int), host_Resize.f [] [] 4 2 = some (s1, t1, 4, 0) ∧ host_Flush.f s1 t1 4 = some (s2, t2, 4, 0) ∧ host_Write.f s2 t2 4 1 one64 = some (s3, t3, 4, 0) ∧ host_Crash.f s3 t3 4 [] = some (s4, t4, 4, 0) ∧ host_Read.f s3 t3 4 1 = some (x, 0) ∧
    s4.length = 2 ∧ x.length = 64 ∧ x[0]? = some 1 ∧ s4[1]? = some y ∧ y.length = 64 ∧ y[0]? = some 0 :=
  ⟨_, _, _, _, _, _, _, _, _, _, rfl, rfl, rfl, rfl, rfl, rfl, rfl, rfl, rfl, rfl, rfl⟩
set_option maxRecDepth 100000 in
set_option maxHeartbeats 4000000 in
theorem flagstonelaw03_alive.calls (w : World) : Calls Try.prog 11 #[] w fun e w' => e = .returned (.bool true) ∧ Below w.heap.size w w' := by
  obtain ⟨s1, s2, s3, s4, t1, t2, t3, t4, x, y, e1, e2, e3, e4, e5, l1, l2, l3, l4, l5, l6⟩ := flagstonelaw03_alive.facts
  have E1 := Aside0.mk e1
  have E2 := Aside0.mk e2
  have E3 := Aside0.mk e3
  have E4 := Aside0.mk e4
  have E5 := Aside0.mk e5
  have L1 := Aside0.mk l1
  have L2 := Aside0.mk l2
  have L3 := Aside0.mk l3
  have L4 := Aside0.mk l4
  have L5 := Aside0.mk l5
  have L6 := Aside0.mk l6
  clear e1 e2 e3 e4 e5 l1 l2 l3 l4 l5 l6
  have HB := Aside0.mk (Below.refl w.heap.size w)
  go_enter Try.func11, Try.ntmps11
  go_wp2_with (first | (go_at_call 34; refine (host_New.four w).mono ?_; rintro e w1 ⟨rfl, hb⟩; have HB1 := Aside0.mk hb; clear hb) | (go_at_call 27; have hq := hb_new w1 #[.slice none 0 0, .slice none 0 0, .int .i64 4] 30; have hbq := below_step HB1.out (below_alloc (Below.refl _ _) (.cells #[.slice none 0 0, .slice none 0 0, .int .i64 4] 30)); have hgw := HB1.out.size; generalize w1.alloc (.cells #[.slice none 0 0, .slice none 0 0, .int .i64 4] 30) = W1 at hq hbq ⊢; generalize w1.heap.size = g at *; have HGW := Aside0.mk hgw; clear hgw; refine (host_Resize.calls none 0 [] none 0 [] 4 2 s1 t1 4 0 W1 (Kd.C_nil _ _) (Nat.le_refl _) (Kd.C_nil _ _) (Nat.le_refl _) E1.out).mono ?_; rintro e w2 ⟨v0, v1, rfl, z0, z1, hb⟩; have HQ2 := Aside0.mk (blk_below hq hb); have HB2 := Aside0.mk (below_step hbq hb); obtain ⟨A2, k2, rfl⟩ := Kd.S_slice z0; obtain ⟨B2, j2, rfl⟩ := Kd.S_slice z1; have S2 := Aside0.mk z0; have T2 := Aside0.mk z1; clear z0 z1 hb hq hbq; have x0 := hb_cell HQ2.out 0; have x1 := hb_cell HQ2.out 1; have x2 := hb_cell HQ2.out 2; simp only [List.getElem?_toArray, List.getElem?_cons_zero, List.getElem?_cons_succ] at x0 x1 x2; have f0 := hb_free HQ2.out 0; have f1 := hb_free HQ2.out 1; have f2 := hb_free HQ2.out 2) | (go_at_call 15; clear x0 x1 x2 f0 f1 f2; obtain ⟨W3, hW3, q0, -, -, -, hoth, hbl⟩ := set3 HQ2.out (.slice A2 s1.length k2) (.slice B2 t1.length j2) (.int .i64 4); rw [← hW3]; have HQ3 := Aside0.mk q0; have HB3 := Aside0.mk (hbl w HB2.out HGW.out); have S3 := Aside0.mk (Kd.S_reads' (S_put3 S2.out HQ2.out (by decide) hoth)); have T3 := Aside0.mk (Kd.S_reads' (S_put3 T2.out HQ2.out (by decide) hoth)); clear hoth hbl q0 hW3; refine (host_Flush.calls A2 k2 s1 B2 j2 t1 4 s2 t2 4 0 W3 S3.out.2.2 S3.out.2.1 T3.out.2.2 T3.out.2.1 E2.out).mono ?_; rintro e w4 ⟨v0, v1, rfl, z0, z1, hb⟩; obtain ⟨A4, k4, rfl⟩ := Kd.S_slice z0; obtain ⟨B4, j4, rfl⟩ := Kd.S_slice z1; have S4 := Aside0.mk z0; have T4 := Aside0.mk z1; have HQ4 := Aside0.mk (blk_below HQ3.out hb); have HB4 := Aside0.mk (below_step HB3.out hb); clear z0 z1 hb; have x0 := hb_cell HQ4.out 0; have x1 := hb_cell HQ4.out 1; have x2 := hb_cell HQ4.out 2; simp only [List.getElem?_toArray, List.getElem?_cons_zero, List.getElem?_cons_succ] at x0 x1 x2; have f0 := hb_free HQ4.out 0; have f1 := hb_free HQ4.out 1; have f2 := hb_free HQ4.out 2))
  clear x0 x1 x2 f0 f1 f2
  obtain ⟨W5, hW5, q0, -, -, -, hoth, hbl⟩ := set3 HQ4.out (.slice A4 s2.length k4) (.slice B4 t2.length j4) (.int .i64 4)
  rw [← hW5]
  have HQ5 := Aside0.mk q0
  have HB5 := Aside0.mk (hbl w HB4.out HGW.out)
  have S5 := Aside0.mk (Kd.S_reads' (S_put3 S4.out HQ4.out (by decide) hoth))
  have T5 := Aside0.mk (Kd.S_reads' (S_put3 T4.out HQ4.out (by decide) hoth))
  clear hoth hbl q0 hW5 S2 T2 S3 T3 S4 T4 HQ2 HQ3 HQ4 HB2 HB3 HB4
  have hmk : ∀ W : World, (Instr.makeSlice 26 (.int .i64 64) (.int .i64 64)).run Try.prog W = .ok (.slice (some ⟨W.heap.size, 0, none⟩) 64 64) (W.alloc (.cells (madeCells #[.int .u8 0] 64) 5)) := print_make (P := Try.prog) 26 5 .u8 1 Try.underlying26 info5 (by omega) 64 (by omega)
  have harr : (madeCells #[Value.int .u8 0] 64).setIfInBounds 0 (.int .u8 1) = (nums .u8 one64).toArray := by
    apply Array.ext'
    simp [madeCells, nums, one64, List.replicate]
    rfl
  have HARR := Aside0.mk harr
  have hnew := hb_new W5 (madeCells #[.int .u8 0] 64) 5
  have c0 := hb_cell hnew 0
  have f0 := hb_free hnew 0
  have hm0 : (madeCells #[.int .u8 0] 64)[0]? = some (Value.int .u8 0) := by simp [madeCells]
  rw [hm0] at c0
  have h6 := blk_below HQ5.out (below_alloc (Below.refl W5.heap.size W5) (.cells ((madeCells #[Value.int .u8 0] 64).setIfInBounds 0 (.int .u8 1)) 5))
  have H6 := Aside0.mk h6
  have x0 := hb_cell h6 0
  have x1 := hb_cell h6 1
  have x2 := hb_cell h6 2
  simp only [List.getElem?_toArray, List.getElem?_cons_zero, List.getElem?_cons_succ] at x0 x1 x2
  clear h6 hnew harr
  have hlit := own_lit W5 W5.heap.size 5 .u8 one64 (Nat.le_refl _) (by simp [one64])
  have HLIT := Aside0.mk (Kd.R_reads' (Kd.R_of_own (enc := fun x : Int => Value.int .u8 x) (h1 := fun _ => rfl) hlit (fun _ _ => trivial) : Kd.R (Kd.int .u8) 5 _ _ (fun _ => True) _ one64))
  have HBA := Aside0.mk (below_alloc (Below.refl W5.heap.size W5) (.cells (nums .u8 one64).toArray 5))
  clear hlit
  go_wp2_with (first | (go_at_call 12; clear x0 x1 x2 c0 f0; rw [HARR.out]; rw [HARR.out] at H6; generalize W5.alloc (.cells (nums .u8 one64).toArray 5) = W6 at HLIT HBA H6 ⊢; refine (host_Write.calls A4 k4 s2 B4 j4 t2 4 1 (some ⟨W5.heap.size, 0, none⟩) 64 one64 s3 t3 4 0 W6 (Kd.C_below S5.out.2.2 HBA.out) S5.out.2.1 (Kd.C_below T5.out.2.2 HBA.out) T5.out.2.1 HLIT.out.2.2 HLIT.out.2.1 E3.out).mono ?_; rintro e w7 ⟨v0, v1, rfl, z0, z1, hb⟩; obtain ⟨A7, k7, rfl⟩ := Kd.S_slice z0; obtain ⟨B7, j7, rfl⟩ := Kd.S_slice z1; have S7 := Aside0.mk (Kd.S_reads' z0); have T7 := Aside0.mk (Kd.S_reads' z1); have HB7 := Aside0.mk (below_step (below_step HB5.out HBA.out) hb); clear z0 z1 hb) | (go_at_call 18; have hq := hb_new w7 #[.slice A7 s3.length k7, .slice B7 t3.length j7, .int .i64 4] 30; have ha := below_alloc (Below.refl w7.heap.size w7) (.cells #[.slice A7 s3.length k7, .slice B7 t3.length j7, .int .i64 4] 30); have HQ8 := Aside0.mk hq; have HA8 := Aside0.mk ha; clear hq ha; generalize w7.alloc (.cells #[.slice A7 s3.length k7, .slice B7 t3.length j7, .int .i64 4] 30) = W8 at HQ8 HA8 ⊢; refine (host_Crash.calls A7 k7 s3 B7 j7 t3 4 none 0 [] s4 t4 4 0 W8 (Kd.C_below S7.out.2.2 HA8.out) S7.out.2.1 (Kd.C_below T7.out.2.2 HA8.out) T7.out.2.1 (Kd.C_nil _ _) (Nat.le_refl _) E4.out).mono ?_; rintro e w9 ⟨v0, v1, rfl, z0, z1, hb⟩; obtain ⟨g9, k9, rfl, _⟩ := Kd.S_form z0 (by rw [L1.out]; decide); obtain ⟨B9, j9, rfl⟩ := Kd.S_slice z1; have S9 := Aside0.mk (Kd.S_reads' z0); have HQ9 := Aside0.mk (blk_below HQ8.out hb); have HA9 := Aside0.mk (below_step HA8.out hb); clear z0 z1 hb; have hqa := blk_below HQ9.out (below_alloc (Below.refl w9.heap.size w9) (.cells #[.slice (some ⟨g9, 0, none⟩) s4.length k9, .slice B9 t4.length j9, .int .i64 4] 30)); have x0 := hb_cell hqa 0; have x1 := hb_cell hqa 1; have x2 := hb_cell hqa 2; simp only [List.getElem?_toArray, List.getElem?_cons_zero, List.getElem?_cons_succ] at x0 x1 x2; clear hqa) | (go_at_call 16; clear x0 x1 x2; have hq := hb_new w9 #[.slice (some ⟨g9, 0, none⟩) s4.length k9, .slice B9 t4.length j9, .int .i64 4] 30; have ha := below_alloc (Below.refl w9.heap.size w9) (.cells #[.slice (some ⟨g9, 0, none⟩) s4.length k9, .slice B9 t4.length j9, .int .i64 4] 30); have HQ10 := Aside0.mk hq; have HA10 := Aside0.mk ha; clear hq ha; generalize w9.alloc (.cells #[.slice (some ⟨g9, 0, none⟩) s4.length k9, .slice B9 t4.length j9, .int .i64 4] 30) = W10 at HQ10 HA10 ⊢; have HA11 := Aside0.mk (below_step HA9.out HA10.out); refine (host_Read.calls A7 k7 s3 B7 j7 t3 4 1 x 0 W10 (Kd.C_below S7.out.2.2 HA11.out) S7.out.2.1 (Kd.C_below T7.out.2.2 HA11.out) T7.out.2.1 E5.out).mono ?_; rintro e w12 ⟨v0, rfl, z0, hb⟩; obtain ⟨A12, k12, rfl⟩ := Kd.R_slice z0; have X12 := Aside0.mk (Kd.R_reads' z0); have HBX := Aside0.mk hb; have HQ12 := Aside0.mk (blk_below HQ10.out hb); clear z0 hb; obtain ⟨ax, rfl, hxc⟩ := X12.out.2.2.2.2 (by rw [L2.out]; decide); have hxe : ∃ u, x[0]? = some u ∧ u = 1 := ⟨1, L3.out, rfl⟩; obtain ⟨cx, hcx1, hcx2, hcx3⟩ := hxc 0 _ L3.out; obtain rfl : cx = [Value.int .u8 1] := hcx2; have hx0 := hcx3 0 _ rfl; obtain ⟨ar, har, hrc⟩ := S9.out.2.2.2.2 (by rw [L1.out]; decide); injection har with har; subst har; obtain ⟨cr, hcr1, ⟨Ay, ky, hcr2, hky, hCy⟩, hcr3⟩ := hrc 1 _ L4.out; subst hcr2; have hr1 := hcr3 0 _ rfl; obtain ⟨ay, hay, hyc⟩ := hCy.2.2 (by rw [L5.out]; decide); subst hay; obtain ⟨cy, hcy1, hcy2, hcy3⟩ := hyc 0 _ L6.out; obtain rfl : cy = [Value.int .u8 0] := hcy2; have hy0 := hcy3 0 _ rfl; have HBR := Aside0.mk (below_step HA10.out HBX.out); have hr1' := pw_cell_below HBR.out hr1; have hy0' := pw_cell_below HBR.out hy0; clear hr1 hy0 hcr3 hcy3 hrc hyc hcr1 hcy1 hky hCy hxc hcx3 hcx1 hxe; have x0 := hb_cell HQ12.out 0; simp only [List.getElem?_toArray, List.getElem?_cons_zero] at x0; have l1 := L1.out; have l2 := L2.out; have l5 := L5.out; simp only [Kd.int, Kd.scalar, Kd.slice, Nat.mul_one, Nat.zero_mul, Nat.one_mul, Nat.add_zero, Nat.zero_add, addr0, add_plain] at hx0 hr1' hy0') | (go_at_call 14; refine (flagstonelaw03_num.same _ _).mono ?_; rintro e wn ⟨rfl, hw⟩; subst hw))
  exact bodyPost_ret (v := .bool true) (by simp [results, Try.results11, go_sem]) rfl ⟨rfl, below_step (below_step HB7.out HA11.out) HBX.out⟩

end Go.Proofs.Ytijmldjghhndoaa.Hy
