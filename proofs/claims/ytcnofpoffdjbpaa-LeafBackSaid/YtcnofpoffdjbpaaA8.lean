/- Two operands, one operand, conversions, places, cuts, on abstract values; and that the model's do the like. No program in sight. -/
import Derived.Test.YtcnofpoffdjbpaaA7
namespace Go.Proofs.Ytcnofpoffdjbpaa.AE
open Go Go.RowKit
set_option linter.unusedVariables false
set_option linter.unusedSimpArgs false
variable {P : Program}
section
variable {σ : Sig} {w : World} {X : Nat → Nat → Prop} {B : Nat}
theorem eqCells_ok {cs ds : List AV} {us vs : List Value} (hc : VRs σ w X B cs us) (hd : VRs σ w X B ds vs) : ∀ (fs : List Field) {l : List (Nat × Nat)} {r : Bool}, tagsOf P fs = some l → eqCells cs ds l = some r → (Op.eqFields 9999 us.toArray vs.toArray fs).run P w = .ok r w
  | [], l, r, h0, h => by
    simp [tagsOf] at h0
    subst h0
    simp [eqCells] at h
    subst h
    simp [Op.eqFields]
  | f :: fs, l, r, h0, h => by
    unfold tagsOf at h0
    split at h0
    · cases h0
    · rename_i hn
      simp only [Option.bind_eq_some_iff, Option.map_eq_some_iff] at h0
      obtain ⟨g, hg, l', hl', rfl⟩ := h0
      simp only [eqCells, Option.bind_eq_some_iff, Option.map_eq_some_iff] at h
      obtain ⟨c, h1, d, h2, r1, h3, s, h4, rfl⟩ := h
      obtain ⟨u, h5, h6⟩ := hc.get h1
      obtain ⟨v, h7, h8⟩ := hd.get h2
      have hagg : (isAgg f.type).run P w = .ok false w := by
        unfold tagT at hg
        unfold isAgg
        split at hg
        · rename_i heq
          rw [Sem.run_bind, run_underlying heq w]; rfl
        · rename_i heq
          rw [Sem.run_bind, run_underlying heq w]; rfl
        · rename_i heq
          rw [Sem.run_bind, run_underlying heq w]; rfl
        · cases hg
      have hp : ∀ (xs : List Value) (x : Value), xs[f.offset]? = some x → (part f.type xs.toArray f.offset).run P w = .ok x w := fun xs x hx => by
        simp [part, Sem.run_bind, hagg, hx]
      have he : (Op.equalIn 9999 f.type u v).run P w = .ok r1 w := eqOne_ok (d := 9998) hg h3 h6 h8
      have ih := eqCells_ok hc hd fs hl' h4
      have hn' : f.name ≠ "_" := hn
      rw [Op.eqFields]
      simp only [if_pos hn', Sem.run_bind, hp _ _ h5, hp _ _ h7, he, Result.andThen_ok]
      cases r1
      · simp
      · simpa using ih
theorem eqAgg_ok {t : TypeId} {cs ds : List AV} {cx cy : Value} {os : List (Nat × Nat)} {r : Bool} (ht : eqT P t = some os) (h : eqCells cs ds os = some r) (hx : VR σ w X B (.agg cs) cx) (hy : VR σ w X B (.agg ds) cy) (x y : Operand) (op : BinOp) :
    (eqGuard op t x y cx cy).run P w = .ok () w ∧ (binOp .eql t cx cy).run P w = .ok (.bool r) w ∧ (binOp .neq t cx cy).run P w = .ok (.bool (!r)) w := by
  obtain ⟨us, rfl, h1⟩ := VR.agg_iff.1 hx
  obtain ⟨vs, rfl, h2⟩ := VR.agg_iff.1 hy
  unfold eqT at ht
  split at ht <;> try (cases ht; done)
  rename_i fs hu
  split at ht <;> try (cases ht; done)
  rename_i hq
  have hf : P.fieldsOf t = fs := by simp [Program.fieldsOf, hu]
  have he : (Op.equalIn 10000 t (.agg us.toArray) (.agg vs.toArray)).run P w = .ok r w := by
    rw [run_equalIn_struct w 9999 t _ _ (by rw [hf]; exact hu) hq.1, hf]
    exact eqCells_ok h1 h2 _ ht h
  refine ⟨?_, by rw [run_eql_struct, he]; rfl, by rw [run_neq_struct, he]; rfl⟩
  cases op <;> simp [eqGuard, hq.2]
theorem InR_bits (op : BinOp) (k : IntKind) (a b : Int) : InR k (bits op k a b) := InR_wrap k _
theorem aArith_ok {op : BinOp} {k : IntKind} {a b : Int} {v : AV} (t : TypeId) (hs : op ≠ .shl) (hs2 : op ≠ .shr) (h : aArith op k a b = some v) (ha : InR k a) : ∃ cv, (binOp op t (.int k a) (.int k b)).run P w = .ok cv w ∧ VR σ w X B v cv := by
  cases op <;> simp only [aArith] at h
  case add => cases h; exact ⟨_, by rw [binOp_add]; rfl, .int _ _ (InR_wrap _ _)⟩
  case sub => cases h; exact ⟨_, by rw [binOp_sub]; rfl, .int _ _ (InR_wrap _ _)⟩
  case mul => cases h; exact ⟨_, by rw [binOp_mul]; rfl, .int _ _ (InR_wrap _ _)⟩
  case quo =>
    split at h <;> cases h
    rename_i hb
    exact ⟨_, by rw [binOp_quo]; simp [Op.intDiv, hb], .int _ _ (InR_wrap _ _)⟩
  case rem =>
    split at h <;> cases h
    rename_i hb
    exact ⟨_, by rw [binOp_rem]; simp [Op.intDiv, hb], .int _ _ (InR_tmod _ _ _ ha)⟩
  case and => cases h; exact ⟨_, by rw [binOp_and, intBits_and]; rfl, .int _ _ (InR_bits _ _ _ _)⟩
  case or => cases h; exact ⟨_, by rw [binOp_or, intBits_or]; rfl, .int _ _ (InR_bits _ _ _ _)⟩
  case xor => cases h; exact ⟨_, by rw [binOp_xor, intBits_xor]; rfl, .int _ _ (InR_bits _ _ _ _)⟩
  case andNot => cases h; exact ⟨_, by rw [binOp_andNot]; rfl, .int _ _ (InR_bits _ _ _ _)⟩
  case eql => cases h; exact ⟨_, by rw [binOp_eql]; rfl, VR.bool (decide (a = b))⟩
  case neq => cases h; exact ⟨_, by rw [binOp_neq]; rfl, VR.bool (!decide (a = b))⟩
  case lss => cases h; exact ⟨_, by rw [binOp_lss]; rfl, .bool _⟩
  case leq => cases h; exact ⟨_, by rw [binOp_leq]; rfl, .bool _⟩
  case gtr => cases h; exact ⟨_, by rw [binOp_gtr]; rfl, .bool _⟩
  case geq => cases h; exact ⟨_, by rw [binOp_geq]; rfl, .bool _⟩
  all_goals first | (cases h; done) | exact absurd rfl hs | exact absurd rfl hs2
theorem aBin_ok {op : BinOp} {t : TypeId} {x y v : AV} {cx cy : Value} (h : aBin P op t x y = some v) (hx : VR σ w X B x cx) (hy : VR σ w X B y cy) (ox oy : Operand) :
    ∃ cv, (do eqGuard op t ox oy cx cy; binOp op t cx cy : Sem Value).run P w = .ok cv w ∧ VR σ w X B v cv := by
  unfold aBin at h
  split at h
  · rename_i k a j b
    cases hx with
    | int _ _ ha =>
    cases hy with
    | int _ _ hb =>
    simp only [eqGuard_at_int, pure_bind]
    split at h
    · split at h <;> cases h
      rename_i h0
      refine ⟨_, ?_, .int _ _ (InR_wrap _ _)⟩
      have : ¬ b < 0 := by omega
      rw [binOp_shl]
      simp [Op.shift, this]
    · split at h <;> cases h
      rename_i h0
      refine ⟨_, ?_, .int _ _ (InR_fdiv _ _ _ ha)⟩
      have : ¬ b < 0 := by omega
      rw [binOp_shr]
      simp [Op.shift, this]
    · rename_i h1 h2
      split at h <;> try (cases h; done)
      subst_vars
      exact aArith_ok t h1 h2 h ha
  · cases hx; cases hy
    simp only [eqGuard_at_bool, pure_bind]
    split at h <;> try (cases h; done)
    · split at h <;> cases h
      rename_i hb
      exact ⟨_, by simp [binOp, run_equal_bool w t _ _ (boolT_iff hb)]; rfl, by first | exact .bool _ | (simp only [BEq.beq]; exact .bool _)⟩
    · split at h <;> cases h
      rename_i hb
      exact ⟨_, by simp [binOp, run_equal_bool w t _ _ (boolT_iff hb)]; rfl, by first | exact .bool _ | (simp only [BEq.beq]; exact .bool _)⟩
  · cases hx; cases hy
    simp only [eqGuard_at_string, pure_bind]
    split at h <;> cases h
    · refine ⟨_, by simp only [binOp, Op.stringOp]; rfl, ?_⟩
      rw [str_beq]
      exact .bool _
    · refine ⟨_, by simp only [binOp, Op.stringOp]; rfl, ?_⟩
      rw [str_beq]
      exact .bool _
  · split at h
    · simp only [Option.bind_eq_some_iff, Option.map_eq_some_iff] at h
      obtain ⟨os, h1, r, h2, rfl⟩ := h
      obtain ⟨q1, q2, q3⟩ := eqAgg_ok h1 h2 hx hy ox oy .eql
      exact ⟨_, by simp only [Sem.run_bind, q1, Result.andThen_ok, q2], .bool _⟩
    · simp only [Option.bind_eq_some_iff, Option.map_eq_some_iff] at h
      obtain ⟨os, h1, r, h2, rfl⟩ := h
      obtain ⟨q1, q2, q3⟩ := eqAgg_ok h1 h2 hx hy ox oy .neq
      exact ⟨_, by simp only [Sem.run_bind, q1, Result.andThen_ok, q3], .bool _⟩
    · cases h
  · cases h
/-! ### one operand -/
def aUn (op : UnOp) : AV → Option AV
  | .int k n => match op with
    | .neg => some (.int k (k.wrap (0 - n)))
    | .xor => some (.int k (bits .xor k (if k.signed then -1 else k.max) n))
    | _ => none
  | .bool b => match op with
    | .not => some (.bool (!b))
    | _ => none
  | _ => none
theorem aUn_ok {op : UnOp} {x v : AV} {cx : Value} (h : aUn op x = some v) (hx : VR σ w X B x cx) : ∃ cv, (Op.unary op cx).run P w = .ok cv w ∧ VR σ w X B v cv := by
  unfold aUn at h
  split at h
  · cases hx
    cases op <;> simp only at h <;> cases h
    · exact ⟨_, rfl, .int _ _ (InR_wrap _ _)⟩
    · exact ⟨_, rfl, .int _ _ (InR_bits _ _ _ _)⟩
  · cases hx
    cases op <;> simp only at h <;> cases h
    exact ⟨_, rfl, .bool _⟩
  · cases h
end
end Go.Proofs.Ytcnofpoffdjbpaa.AE
