/- Layer 7, plain: unlike nodes have unlike pages. -/
import Derived.Test.YtcnofpoffdjbpaaN3
namespace Go.Proofs.Ytcnofpoffdjbpaa.AE
open Go Go.RowKit Go.Proofs Go.Proofs.Ytcnofpoffdjbpaa
set_option linter.unusedVariables false
abbrev OkIt (l : List (Int × Int)) : Prop := ∀ x ∈ l, (0 ≤ x.1 ∧ x.1 < 18446744073709551616) ∧ 0 ≤ x.2 ∧ x.2 < 18446744073709551616
theorem putI_one (x : Int) (h0 : 0 ≤ x) (h : x < 256) : Pl.putI 1 x = [x] := by
  rw [show (1 : Nat) = 0 + 1 from rfl, Pl.putI_snoc 0 x h0]
  have : x % 256 = x := by omega
  simp [Pl.putI, Pl.ofB, Fs.put, this]
theorem pair_ext {l m : List (Int × Int)} (h1 : l.map (·.1) = m.map (·.1)) (h2 : l.map (·.2) = m.map (·.2)) : l = m := by
  induction l generalizing m with
  | nil => cases m with
    | nil => rfl
    | cons _ _ => simp at h1
  | cons x l ih => cases m with
    | nil => simp at h1
    | cons y m =>
      simp only [List.map_cons, List.cons.injEq] at h1 h2
      rw [ih h1.2 h2.2, Prod.ext h1.1 h2.1]
theorem padL_len {b : List Int} (h : b.length ≤ 60) : (padL b).length = 60 := by unfold padL; simp; omega
theorem kind_tall (kids : List Int) : kindI kids = if tallB kids = true then 2 else 1 := by
  unfold kindI tallB
  by_cases h : 0 < kids.length <;> simp [h]
theorem enc_head {l : List (Int × Int)} {kids : List Int} (hn : l.length ≤ 3) : ∃ t, encF l kids = kindI kids :: (l.length : Int) :: t := by
  refine ⟨(encF l kids).drop 2, ?_⟩
  have e : kindI kids = 1 ∨ kindI kids = 2 := by unfold kindI; split <;> simp
  have p1 := putI_one (kindI kids) (by rcases e with e | e <;> omega) (by rcases e with e | e <;> omega)
  have p2 := putI_one (l.length : Int) (by omega) (by omega)
  have : encF l kids = Pl.putI 1 (kindI kids) ++ (Pl.putI 1 (l.length : Int) ++ (Pl.flat ((widL (tallB kids) l.length).drop 2) ((valL l kids).drop 2))) := rfl
  rw [this, p1, p2]
  rfl
theorem enc_inj {l l' : List (Int × Int)} {k k' : List Int} (hok : okN l k) (hok' : okN l' k') (hit : OkIt l) (hit' : OkIt l') (h : encS l k = encS l' k') : l = l' ∧ k = k' := by
  have hF := encF_len hok hit
  have hF' := encF_len hok' hit'
  have h1 : padL (encF l k) = padL (encF l' k') := by
    have := congrArg (List.take 60) h
    unfold encS Pl.sealS at this
    rwa [List.take_left' (padL_len hF), List.take_left' (padL_len hF')] at this
  obtain ⟨t, ht⟩ := enc_head (l := l) (kids := k) hok.1.2
  obtain ⟨t', ht'⟩ := enc_head (l := l') (kids := k') hok'.1.2
  have h2 : kindI k = kindI k' ∧ (l.length : Int) = (l'.length : Int) := by
    have := h1
    unfold padL at this
    rw [ht, ht'] at this
    simp only [List.cons_append, List.cons.injEq] at this
    exact ⟨this.1, this.2.1⟩
  have hn : l.length = l'.length := by omega
  have htall : tallB k = tallB k' := by
    have := h2.1
    rw [kind_tall, kind_tall] at this
    cases h3 : tallB k <;> cases h4 : tallB k' <;> simp [h3, h4] at this ⊢
  have hW : widL (tallB k) l.length = widL (tallB k') l'.length := by rw [htall, hn]
  have hlen : (encF l k).length = (encF l' k').length := by
    unfold encF
    rw [Pl.flat_len (val_fits hok hit), Pl.flat_len (val_fits hok' hit'), hW]
  have hFF : encF l k = encF l' k' := by
    have := congrArg (List.take (encF l k).length) h1
    unfold padL at this
    rw [List.take_left' rfl] at this
    rw [this, hlen, List.take_left' rfl]
  have hV : valL l k = valL l' k' := by
    have e := congrArg (Pl.unpackGo (widL (tallB k) l.length)) hFF
    unfold encF at e
    rw [Pl.unpack_flat (val_fits hok hit), hW, Pl.unpack_flat (val_fits hok' hit')] at e
    exact e
  have hkt : (0 < k.length) = (0 < k'.length) := by
    have := htall
    unfold tallB at this
    exact propext (by simpa using this)
  have hkl : k.length = k'.length := by
    by_cases hk : 0 < k.length
    · rw [hok.2.1 hk, hok'.2.1 (hkt ▸ hk), hn]
    · have hk' : ¬ 0 < k'.length := hkt ▸ hk
      omega
  unfold valL pre3 pre2 pre1 at hV
  rw [List.take_length, List.take_length, List.take_length, List.take_length] at hV
  obtain ⟨q1, q2⟩ := List.append_inj hV (by simp [hn, hkl])
  obtain ⟨q3, q4⟩ := List.append_inj q1 (by simp [hn])
  obtain ⟨q5, q6⟩ := List.append_inj q3 (by simp)
  refine ⟨pair_ext q6 ?_, q4⟩
  by_cases hk : 0 < k.length
  · have hk' : 0 < k'.length := hkt ▸ hk
    have z : ∀ (m : List (Int × Int)) (kk : List Int), okN m kk → OkIt m → 0 < kk.length → m.map (·.2) = List.replicate m.length 0 := fun m kk ho hi hp => by
      rw [List.eq_replicate_iff]
      refine ⟨by simp, fun v hv => ?_⟩
      obtain ⟨x, hx, rfl⟩ := List.mem_map.1 hv
      obtain ⟨i, hi2⟩ := List.mem_iff_getElem?.1 hx
      have h3 := (ho.2.2.1 i (List.getElem?_eq_some_iff.1 hi2).1).2 hp
      rw [getD_of hi2] at h3
      have := (hi x hx).2.1
      omega
    rw [z l k hok hit hk, z l' k' hok' hit' hk', hn]
  · have hk' : ¬ 0 < k'.length := hkt ▸ hk
    rw [if_neg hk, if_neg hk', List.take_length, List.take_length] at q2
    exact q2
end Go.Proofs.Ytcnofpoffdjbpaa.AE
