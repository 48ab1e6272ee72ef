/- Code on abstract values: what holds of the abstract walk holds of the model's. No program in sight. -/
import Derived.Test.YtcnofpoffdjbpaaB2
import Derived.Deep.LoopGhost
import Derived.Scope
namespace Go.Proofs.Ytcnofpoffdjbpaa.AE
open Go Go.RowKit
set_option linter.unusedVariables false
set_option linter.unusedSimpArgs false
variable {P : Program}

/-- A call that is put off. -/
structure ADef where
  f : Fn
  cap : List AV
  args : List AV
structure St where
  tm : Nat → AV
  h : AHeap
  nx : Nat
  df : List ADef
inductive AX where
  | norm
  | ex (id : Nat)
  | gt (l : Nat)
  | ret
  | pan (v : AV)
inductive AEnd where
  | ret (v : AV)
  | pan (v : AV)
def DR (σ : Sig) (w : World) (X : Nat → Nat → Prop) (B : Nat) : List ADef → List Deferred → Prop
  | [], [] => True
  | a :: as, d :: ds => (∃ cs : Array Value, d.target = .fn a.f cs ∧ VRs σ w X B a.cap cs.toList ∧ VRs σ w X B a.args d.args.toList) ∧ DR σ w X B as ds
  | _, _ => False
inductive XR (σ : Sig) (w : World) (X : Nat → Nat → Prop) (B : Nat) : AX → Exit → Prop
  | norm : XR σ w X B .norm .normal
  | ex (id : Nat) : XR σ w X B (.ex id) (.exit id)
  | gt (l : Nat) : XR σ w X B (.gt l) (.goto l)
  | ret : XR σ w X B .ret .ret
  | pan (a : AV) (v : Value) (h : VR σ w X B a v) : XR σ w X B (.pan a) (.panic [{ v, recovered := false }])
inductive ER (σ : Sig) (w : World) (X : Nat → Nat → Prop) (B : Nat) : AEnd → Ending → Prop
  | ret (a : AV) (v : Value) (h : VR σ w X B a v) : ER σ w X B (.ret a) (.returned v)
  | pan (a : AV) (v : Value) (h : VR σ w X B a v) : ER σ w X B (.pan a) (.panicked [{ v, recovered := false }])
/-- Where a walk began: all that stood for something there still does. -/
structure Orig where
  σ : Sig
  h : AHeap
  w : World
  nx : Nat
structure Keep (B : Nat) (O : Orig) (σ : Sig) (h : AHeap) (w : World) (nx : Nat) : Prop where
  vr : ∀ a v, VR O.σ O.w (Held O.σ O.h) B a v → VR σ w (Held σ h) B a v
  nx : O.nx ≤ nx
  σ : ∀ n, n < O.nx → σ n = O.σ n
theorem Keep.trans {B : Nat} {O : Orig} {σ σ' : Sig} {h h' : AHeap} {w w' : World} {nx nx' : Nat} (k : Keep B O σ h w nx) (k' : ∀ a v, VR σ w (Held σ h) B a v → VR σ' w' (Held σ' h') B a v) (hn : nx ≤ nx') (hσ : ∀ n, n < nx → σ' n = σ n) : Keep B O σ' h' w' nx' :=
  ⟨fun a v q => k' _ _ (k.vr _ _ q), Nat.le_trans k.nx hn, fun n hn => (hσ n (Nat.lt_of_lt_of_le hn k.nx)).trans (k.σ n hn)⟩
theorem Keep.refl {B : Nat} (σ : Sig) (h : AHeap) (w : World) (nx : Nat) : Keep B ⟨σ, h, w, nx⟩ σ h w nx := ⟨fun _ _ q => q, Nat.le_refl _, fun _ _ => rfl⟩
structure Rel (B : Nat) (w0 : World) (nt : Nat) (σ : Sig) (st : St) (act : Act) (w : World) : Prop where
  sr : SR B w0 σ st.h w
  tr : TR σ w (Held σ st.h) B st.tm act.tmps
  nt : act.tmps.size = nt
  nx : ∀ n, st.nx ≤ n → σ n = none
  df : DR σ w (Held σ st.h) B st.df act.defers
/-- Behind the walk. -/
def post (nt : Nat) (B : Nat) (w0 : World) (O : Orig) (Q : AX → St → Prop) (e : Exit) (act : Act) (w : World) : Prop :=
  ∃ ax st σ, XR σ w (Held σ st.h) B ax e ∧ Rel B w0 nt σ st act w ∧ Keep B O σ st.h w st.nx ∧ Q ax st
def aWp (P : Program) (nt : Nat) (c : Code) (Q : AX → St → Prop) (st : St) : Prop :=
  ∀ B w0 O σ act w, Rel B w0 nt σ st act w → Keep B O σ st.h w st.nx → c.wp P (post nt B w0 O Q) act w
def aOps (P : Program) (nt : Nat) (ops : Array Oper) (l : List Oper) (Q : AX → St → Prop) (st : St) : Prop :=
  ∀ B w0 O σ act w, Rel B w0 nt σ st act w → Keep B O σ st.h w st.nx → wpList P ops (post nt B w0 O Q) l act w
def aCalls (P : Program) (f : FuncId) (args : List AV) (h : AHeap) (nx : Nat) (R : AEnd → AHeap → Nat → Prop) : Prop :=
  ∀ B w0 O σ w (vs : Array Value), SR B w0 σ h w → (∀ n, nx ≤ n → σ n = none) → Keep B O σ h w nx → VRs σ w (Held σ h) B args vs.toList →
    Calls P f vs w fun e w' => ∃ ae h' nx' σ', ER σ' w' (Held σ' h') B ae e ∧ SR B w0 σ' h' w' ∧ (∀ n, nx' ≤ n → σ' n = none) ∧ Keep B O σ' h' w' nx' ∧ R ae h' nx'

section
variable {nt : Nat} {Q Q' : AX → St → Prop} {st : St} {ops : Array Oper}
theorem DR.mono {σ σ' : Sig} {w w' : World} {X X' : Nat → Nat → Prop} {B : Nat} (k : ∀ a v, VR σ w X B a v → VR σ' w' X' B a v) : ∀ {as : List ADef} {ds : List Deferred}, DR σ w X B as ds → DR σ' w' X' B as ds
  | [], [], _ => trivial
  | a :: as, d :: ds, ⟨⟨cs, h1, h2, h3⟩, h4⟩ => ⟨⟨cs, h1, ⟨h2.1, fun j c v q r => k _ _ (h2.2 j c v q r)⟩, ⟨h3.1, fun j c v q r => k _ _ (h3.2 j c v q r)⟩⟩, h4.mono k⟩
  | [], _ :: _, h => h.elim
  | _ :: _, [], h => h.elim
theorem aWp_mono {c : Code} (h : aWp P nt c Q st) (hq : ∀ e s, Q e s → Q' e s) : aWp P nt c Q' st := fun B w0 O σ act w hr hk =>
  wp_mono (h B w0 O σ act w hr hk) fun e a w ⟨ax, s, σ', h1, h2, h3, h4⟩ => ⟨ax, s, σ', h1, h2, h3, hq _ _ h4⟩
theorem aWp_skip (h : Q .norm st) : aWp P nt .skip Q st := fun B w0 O σ act w hr hk => wp_skip ⟨_, _, _, .norm, hr, hk, h⟩
theorem aWp_exit {id : Nat} (h : Q (.ex id) st) : aWp P nt (.exit id) Q st := fun B w0 O σ act w hr hk => wp_exit ⟨_, _, _, .ex id, hr, hk, h⟩
theorem aWp_ret (h : Q .ret st) : aWp P nt .ret Q st := fun B w0 O σ act w hr hk => wp_ret ⟨_, _, _, .ret, hr, hk, h⟩
/-- What follows. -/
def AX.andThen (K : St → Prop) (Q : AX → St → Prop) : AX → St → Prop
  | .norm, s => K s
  | e, s => Q e s
theorem aWp_seq {x y : Code} (h : aWp P nt x (AX.andThen (aWp P nt y Q) Q) st) : aWp P nt (.seq x y) Q st := fun B w0 O σ act w hr hk => by
  refine wp_seq (wp_mono (h B w0 O σ act w hr hk) ?_)
  rintro e a w ⟨ax, s, σ', h1, h2, h3, h4⟩
  cases h1 with
  | norm => exact h4 B w0 O σ' a w h2 h3
  | ex id => exact ⟨_, _, _, .ex id, h2, h3, h4⟩
  | gt l => exact ⟨_, _, _, .gt l, h2, h3, h4⟩
  | ret => exact ⟨_, _, _, .ret, h2, h3, h4⟩
  | pan a v h => exact ⟨_, _, _, .pan a v h, h2, h3, h4⟩
theorem aWp_cond {c : Operand} {x y : Code} {t : Bool} (hc : evA st.tm c = .bool t) (h : aWp P nt (if t = true then x else y) Q st) : aWp P nt (.cond c x y) Q st := fun B w0 O σ act w hr hk => by
  have h1 := hr.tr.eval c
  rw [hc] at h1
  generalize hcc : act.eval c = cc at h1
  cases h1
  exact wp_cond hcc (h B w0 O σ act w hr hk)
/-- A block's own exit ends it. -/
def AX.inBlock (id : Nat) (Q : AX → St → Prop) : AX → St → Prop
  | .ex i, s => if i = id then Q .norm s else Q (.ex i) s
  | e, s => Q e s
theorem aWp_block {id : Nat} {c : Code} (h : aWp P nt c (AX.inBlock id Q) st) : aWp P nt (.block id c) Q st := fun B w0 O σ act w hr hk => by
  refine wp_block (wp_mono (h B w0 O σ act w hr hk) ?_)
  rintro e a w ⟨ax, s, σ', h1, h2, h3, h4⟩
  cases h1 with
  | norm => exact ⟨_, _, _, .norm, h2, h3, h4⟩
  | ex i =>
    simp only [AX.inBlock] at h4
    simp only [Exit.inBlock]
    split at h4
    · rw [if_pos (by assumption)]; exact ⟨_, _, _, .norm, h2, h3, h4⟩
    · rw [if_neg (by assumption)]; exact ⟨_, _, _, .ex i, h2, h3, h4⟩
  | gt l => exact ⟨_, _, _, .gt l, h2, h3, h4⟩
  | ret => exact ⟨_, _, _, .ret, h2, h3, h4⟩
  | pan a v h => exact ⟨_, _, _, .pan a v h, h2, h3, h4⟩
/-- A loop: a relation that bears a number, which each round lowers. -/
theorem aWp_loop {c : Code} (I : Nat → St → Prop) (n : Nat) (h0 : I n st) (round : ∀ n s, I n s → aWp P nt c (AX.andThen (fun s' => ∃ m, m < n ∧ I m s') Q) s) : aWp P nt (.loop c) Q st := fun B w0 O σ act w hr hk => by
  refine wp_loop_ghost (fun n a w => ∃ s σ', Rel B w0 nt σ' s a w ∧ Keep B O σ' s.h w s.nx ∧ I n s) n ⟨st, σ, hr, hk, h0⟩ ?_
  rintro m a w ⟨s, σ', h1, h2, h3⟩
  refine wp_mono (round m s h3 B w0 O σ' a w h1 h2) ?_
  rintro e a w ⟨ax, s, σ', h1, h2, h3, h4⟩
  cases h1 with
  | norm => obtain ⟨k, h5, h6⟩ := h4; exact ⟨k, h5, s, σ', h2, h3, h6⟩
  | ex id => exact ⟨_, _, _, .ex id, h2, h3, h4⟩
  | gt l => exact ⟨_, _, _, .gt l, h2, h3, h4⟩
  | ret => exact ⟨_, _, _, .ret, h2, h3, h4⟩
  | pan a v h => exact ⟨_, _, _, .pan a v h, h2, h3, h4⟩
/-- No jump leaves a scope. -/
def AX.noGoto (Q : AX → St → Prop) : AX → St → Prop
  | .gt _, _ => False
  | e, s => Q e s
theorem aWp_scope {c : Code} (h : aWp P nt c (AX.noGoto Q) st) : aWp P nt (.scope c) Q st := fun B w0 O σ act w hr hk => by
  refine wp_scope_straight (wp_mono (h B w0 O σ act w hr hk) ?_)
  rintro e a w ⟨ax, s, σ', h1, h2, h3, h4⟩
  cases h1 with
  | norm => exact ⟨_, _, _, .norm, h2, h3, h4⟩
  | ex id => exact ⟨_, _, _, .ex id, h2, h3, h4⟩
  | gt l => exact h4.elim
  | ret => exact ⟨_, _, _, .ret, h2, h3, h4⟩
  | pan a v h => exact ⟨_, _, _, .pan a v h, h2, h3, h4⟩
theorem aWp_region {id : Nat} {l : List Oper} (h : aOps P nt l.toArray l Q st) : aWp P nt (.region id l.toArray false) Q st := fun B w0 O σ act w hr hk => wp_region_lit (h B w0 O σ act w hr hk)
/-! ### operations -/
def putA (tm : Nat → AV) (d : Option Tmp) (v : AV) : Nat → AV := match d with | some d => upd tm d v | none => tm
def dstOk (nt : Nat) : Option Tmp → Bool
  | none => true
  | some d => decide (d < nt)
/-- Is the operation wanted? -/
def guardA (ops : Array Oper) (tm : Nat → AV) : Option (Nat × Bool) → Option Bool
  | none => some true
  | some (j, want) => match (ops[j]?).bind (·.dst) with
    | none => some false
    | some d => match tm d with
      | .bool b => some (b == want)
      | .tup _ => some false
      | _ => none
theorem guardA_ok {σ : Sig} {w : World} {X : Nat → Nat → Prop} {B : Nat} {tm : Nat → AV} {act : Act} (ht : TR σ w X B tm act.tmps) {o : Oper} {b : Bool} (h : guardA ops tm o.guard = some b) : Region.wanted o (yielded ops act.tmps) = b := by
  unfold guardA at h
  unfold Region.wanted
  split at h
  · rename_i hg
    cases h
    rw [hg]
  · rename_i j want hg
    rw [hg]
    simp only
    unfold yielded
    split at h
    · rename_i hd
      cases h
      rw [hd]
      simp
    · rename_i d hd
      rw [hd]
      have := ht d
      simp only [Option.bind_some]
      split at h <;> try (cases h; done)
      · rename_i b hb
        rw [hb] at this
        cases h
        rw [Array.getD_eq_getD_getElem?] at this
        cases hq : act.tmps[d]? with
        | none => rw [hq] at this; cases this
        | some v =>
          rw [hq] at this
          simp only [Option.getD_some] at this
          cases this
          simp only [Option.some.injEq, BEq.beq]
          cases b <;> cases want <;> rfl
      · rename_i vs hb
        rw [hb] at this
        cases h
        rw [Array.getD_eq_getD_getElem?] at this
        cases hq : act.tmps[d]? with
        | none => rfl
        | some v =>
          rw [hq] at this
          simp only [Option.getD_some] at this
          cases this
          rfl
theorem Rel.put {B : Nat} {w0 w w' : World} {σ σ' : Sig} {h' : AHeap} {nx' : Nat} {act : Act} {v : AV} {cv : Value} (hr : Rel B w0 nt σ st act w) (hs : SR B w0 σ' h' w') (hk : ∀ a v, VR σ w (Held σ st.h) B a v → VR σ' w' (Held σ' h') B a v) (hn : ∀ n, nx' ≤ n → σ' n = none)
    (d : Option Tmp) (hd : dstOk nt d = true) (hv : VR σ' w' (Held σ' h') B v cv) : Rel B w0 nt σ' ⟨putA st.tm d v, h', nx', st.df⟩ (act.put d cv) w' := by
  have ht : TR σ' w' (Held σ' h') B st.tm act.tmps := fun t => hk _ _ (hr.tr t)
  cases d with
  | none => exact ⟨hs, ht, hr.nt, hn, hr.df.mono hk⟩
  | some d =>
    have hlt : d < act.tmps.size := by
      rw [hr.nt]
      simpa [dstOk] using hd
    exact ⟨hs, ht.put hlt hv, by simp [Act.put, hr.nt], hn, hr.df.mono hk⟩
theorem aOps_nil (h : Q .norm st) : aOps P nt ops [] Q st := fun B w0 O σ act w hr hk => ⟨_, _, _, .norm, hr, hk, h⟩
theorem aOps_skip {o : Oper} {rest : List Oper} (hg : guardA ops st.tm o.guard = some false) (hd : dstOk nt o.dst = true) (h : aOps P nt ops rest Q ⟨putA st.tm o.dst (.tup []), st.h, st.nx, st.df⟩) : aOps P nt ops (o :: rest) Q st := fun B w0 O σ act w hr hk => by
  have hw := guardA_ok hr.tr hg
  unfold wpList
  rw [if_neg (by rw [hw]; decide)]
  refine h B w0 O σ _ w (hr.put hr.sr (fun _ _ q => q) hr.nx o.dst hd (VR.tup_iff.2 ⟨[], rfl, .nil⟩)) hk
theorem aOps_val {o : Oper} {rest : List Oper} {v : AV} {h' : AHeap} {k' : Nat} (hg : guardA ops st.tm o.guard = some true) (hd : dstOk nt o.dst = true) (ha : aop P o.op st.tm st.h st.nx = some (v, h', k')) (hk' : st.nx ≤ k') (h : aOps P nt ops rest Q ⟨putA st.tm o.dst v, h', k', st.df⟩) : aOps P nt ops (o :: rest) Q st := fun B w0 O σ act w hr hk => by
  have hw := guardA_ok hr.tr hg
  unfold wpList
  rw [if_pos (by rw [hw])]
  obtain ⟨cv, w', h1, σ', h2, h3, h4, h5⟩ := aop_ok hr.sr hr.tr (fun n hn _ => hr.nx n hn) ha
  have hr' := hr.put h2 h4 (fun n hn => by rw [h3 n (.inr hn)]; exact hr.nx n (by omega)) o.dst hd h5
  have := h B w0 O σ' _ w' hr' (hk.trans h4 hk' (fun n hn => h3 n (.inl hn)))
  left
  unfold Oper.wp
  rcases h1 with h1 | ⟨h1, rfl⟩
  · rw [h1]; exact this
  · rw [h1]; exact this
/-- A function with a Go body. -/
def callable (P : Program) (f : FuncId) : Bool := match P.funcs[f]? with | some fn => fn.body.isSome && !(fn.name == "runtime.NumGoroutine") | none => false
theorem run_callFunc {f : FuncId} (h : callable P f = true) (args : Array Value) (w : World) : (callFunc f args).run P w = .ok (.enter f args) w := by
  unfold callable at h
  split at h
  · rename_i fn hf
    simp only [Bool.and_eq_true, Bool.not_eq_true'] at h
    have hn : ¬ fn.name = "runtime.NumGoroutine" := by simpa using h.2
    have hb : ¬ fn.body = none := fun e => by rw [e] at h; simp at h
    simp [callFunc, Sem.run_bind, hf, hn, hb]
  · cases h
/-- Which function a call enters, and with which values. -/
def calleeA (tm : Nat → AV) (c : Call) : Option (FuncId × List AV) :=
  match c.callee with
  | .value x => match evA tm x with
    | .fn (.func f) first cap => some (f, first ++ c.args.toList.map (evA tm) ++ cap)
    | _ => none
  | _ => none
theorem calleeA_ok {σ : Sig} {w : World} {X : Nat → Nat → Prop} {B : Nat} {tm : Nat → AV} {act : Act} (ht : TR σ w X B tm act.tmps) {dst : Option Tmp} {ty : TypeId} {pos : String} {after : Array Edge} {guard : Option (Nat × Bool)} {c : Call} {f : FuncId} {args : List AV} (h : calleeA tm c = some (f, args)) (hc : callable P f = true) :
    ∃ vs : Array Value, (execOp act.eval ⟨dst, .call c, ty, pos, after, guard⟩).run P w = .ok (.enter f vs) w ∧ VRs σ w X B args vs.toList := by
  obtain ⟨callee, as, ts⟩ := c
  unfold calleeA at h
  split at h <;> try (cases h; done)
  rename_i x hx
  simp only at hx
  subst hx
  split at h <;> cases h
  rename_i first cap he
  have h1 := ht.eval x
  rw [he] at h1
  generalize hcc : act.eval x = cc at h1
  cases h1 with
  | fn _ _ _ us vs hl hm ha hv =>
  have h2 := args_rel ht as
  refine ⟨us ++ as.map act.eval ++ vs, ?_, ?_⟩
  · simp only [execOp, resolve, hcc, Deferred.ofValue, pure_bind, invoke]
    exact run_callFunc hc _ w
  · rw [Array.toList_append, Array.toList_append]
    exact VRs.append (VRs.append ⟨by simpa using hl, fun j c v q r => ha j c v q (by simpa using r)⟩ h2) ⟨by simpa using hm, fun j c v q r => hv j c v q (by simpa using r)⟩
theorem aOps_call {o : Oper} {rest : List Oper} {c : Call} {f : FuncId} {args : List AV} {R : AEnd → AHeap → Nat → Prop} (hg : guardA ops st.tm o.guard = some true) (hd : dstOk nt o.dst = true) (ho : o.op = .call c) (ha : calleeA st.tm c = some (f, args)) (hc : callable P f = true)
    (hcall : aCalls P f args st.h st.nx R) (hret : ∀ v h' k', R (.ret v) h' k' → aOps P nt ops rest Q ⟨putA st.tm o.dst v, h', k', st.df⟩) (hpan : ∀ v h' k', R (.pan v) h' k' → Q (.pan v) ⟨st.tm, h', k', st.df⟩) : aOps P nt ops (o :: rest) Q st := fun B w0 O σ act w hr hk => by
  have hw := guardA_ok hr.tr hg
  unfold wpList
  rw [if_pos (by rw [hw])]
  obtain ⟨dst, op, ty, pos, after, guard⟩ := o
  simp only at ho
  subst ho
  obtain ⟨vs, h1, h2⟩ := calleeA_ok (P := P) (dst := dst) (ty := ty) (pos := pos) (after := after) (guard := guard) hr.tr ha hc
  left
  unfold Oper.wp
  rw [h1]
  refine (hcall B w0 ⟨σ, st.h, w, st.nx⟩ σ w vs hr.sr hr.nx (.refl _ _ _ _) h2).mono ?_
  rintro e w' ⟨ae, h', nx', σ', h3, h4, h5, h6, h7⟩
  cases h3 with
  | ret a v hv =>
    exact hret a h' nx' h7 B w0 O σ' _ w' (hr.put h4 h6.vr h5 dst hd hv) (hk.trans h6.vr h6.nx h6.σ)
  | pan a v hv =>
    exact ⟨_, ⟨st.tm, h', nx', st.df⟩, σ', .pan a v hv, ⟨h4, fun t => h6.vr _ _ (hr.tr t), hr.nt, h5, hr.df.mono h6.vr⟩, hk.trans h6.vr h6.nx h6.σ, hpan a h' nx' h7⟩
/-! ### functions -/
def resOne (P : Program) (st : St) : ResultVar → Option AV
  | .tmp t => some (st.tm t)
  | .cell a t => match st.tm a with
    | .ptr n e j => aLoad P st.h t (.ptr n e j)
    | _ => none
def resAll (P : Program) (st : St) : List ResultVar → Option (List AV)
  | [] => some []
  | r :: rs => (resOne P st r).bind fun v => (resAll P st rs).map fun vs => v :: vs
/-- What a function answers. -/
def resA (P : Program) (st : St) (rs : List ResultVar) : Option AV :=
  (resAll P st rs).map fun | [v] => v | vs => .tup vs
def resM (tmps : Array Value) : ResultVar → Sem Value
  | .tmp t => pure (tmps.getD t undef)
  | .cell a t => do loadVar t (← asAddr (tmps.getD a undef))
theorem results_eq (fn : Func) (tmps : Array Value) : results fn tmps = (do let vs ← fn.results.mapM (resM tmps); pure (if h : vs.size = 1 then vs[0] else .tuple vs)) := by
  unfold results
  have : (fun r : ResultVar => (match r with | .tmp t => pure (tmps.getD t undef) | .cell a t => do loadVar t (← asAddr (tmps.getD a undef)) : Sem Value)) = resM tmps := by
    funext r
    cases r <;> rfl
  rw [← this]
  rfl
theorem resAll_ok {B : Nat} {w0 w : World} {σ : Sig} {act : Act} (hr : Rel B w0 nt σ st act w) : ∀ (rs : List ResultVar) {vs : List AV}, resAll P st rs = some vs →
    ∃ us : List Value, (rs.mapM (resM act.tmps)).run P w = .ok us w ∧ VRs σ w (Held σ st.h) B vs us
  | [], vs, h => by
    simp [resAll] at h
    subst h
    exact ⟨[], by simp, .nil⟩
  | r :: rs, vs, h => by
    simp only [resAll, Option.bind_eq_some_iff, Option.map_eq_some_iff] at h
    obtain ⟨v, h1, vs', h2, rfl⟩ := h
    obtain ⟨us, h3, h4⟩ := resAll_ok hr rs h2
    cases r with
    | tmp t =>
      simp only [resOne, Option.some.injEq] at h1
      subst h1
      refine ⟨act.tmps.getD t undef :: us, ?_, .cons (hr.tr t) h4⟩
      simp only [List.mapM_cons, resM, Sem.run_bind, Sem.run_pure, Result.andThen_ok, h3]
    | cell a t =>
      simp only [resOne] at h1
      split at h1 <;> try (cases h1; done)
      rename_i n e j ha
      have h5 := hr.tr a
      rw [ha] at h5
      obtain ⟨cv, h6, h7⟩ := aLoad_ok (P := P) hr.sr h1 h5
      refine ⟨cv :: us, ?_, .cons h7 h4⟩
      have h8 : (do loadVar t (← asAddr (act.tmps.getD a undef)) : Sem Value).run P w = .ok cv w := by
        generalize hcc : act.tmps.getD a undef = cc at h5 h6
        cases h5
        simpa [Instr.loadAt, Instr.sureAddr, asAddr] using h6
      rw [List.mapM_cons, Sem.run_bind]
      show ((do loadVar t (← asAddr (act.tmps.getD a undef)) : Sem Value).run P w).andThen _ = _
      rw [h8]
      simp only [Result.andThen_ok, Sem.run_bind, h3, Sem.run_pure]
theorem resA_ok {B : Nat} {w0 w : World} {σ : Sig} {act : Act} (hr : Rel B w0 nt σ st act w) {fn : Func} {v : AV} (h : resA P st fn.results.toList = some v) : ∃ cv, (results fn act.tmps).run P w = .ok cv w ∧ VR σ w (Held σ st.h) B v cv := by
  unfold resA at h
  obtain ⟨vs, h1, h2⟩ := Option.map_eq_some_iff.1 h
  obtain ⟨us, h3, h4⟩ := resAll_ok hr _ h1
  have hrun : ∀ cv, (if h : us.toArray.size = 1 then us.toArray[0] else .tuple us.toArray) = cv → (results fn act.tmps).run P w = .ok cv w := fun cv hcv => by
    rw [results_eq, Array.mapM_eq_mapM_toList]
    simp only [Sem.run_bind, Sem.run_map, h3, Result.andThen_ok, Sem.run_pure, hcv]
  match vs, h4, h2 with
  | [], h4, h2 =>
    have : us = [] := List.eq_nil_of_length_eq_zero h4.1.symm
    subst this
    cases h2
    exact ⟨_, hrun _ rfl, VR.tup_iff.2 ⟨[], rfl, .nil⟩⟩
  | [a], h4, h2 =>
    obtain ⟨u, rfl, hu⟩ := h4.one
    cases h2
    exact ⟨_, hrun _ rfl, hu⟩
  | a :: b :: l, h4, h2 =>
    cases h2
    have hl := h4.1
    refine ⟨.tuple us.toArray, hrun _ ?_, VR.tup_iff.2 ⟨us, rfl, h4⟩⟩
    rw [dif_neg (by simp at hl ⊢; omega)]
/-- A function's end. -/
def bodyA (P : Program) (fn : Func) (R : AEnd → AHeap → Nat → Prop) : AX → St → Prop
  | .norm, s | .ret, s => s.df = [] ∧ ∃ v, resA P s fn.results.toList = some v ∧ R (.ret v) s.h s.nx
  | .pan v, s => s.df = [] ∧ R (.pan v) s.h s.nx
  | _, _ => False
theorem DR.nil {σ : Sig} {w : World} {X : Nat → Nat → Prop} {B : Nat} : ∀ {ds : List Deferred}, DR σ w X B [] ds → ds = []
  | [], _ => rfl
  | _ :: _, h => h.elim
/-- The temporaries at the begin. -/
def tm0 (args : List AV) : Nat → AV := fun t => (args[t]?).getD (.tup [])
theorem aCalls_body {f : FuncId} {fn : Func} {c : Code} {args : List AV} {h : AHeap} {nx : Nat} {R : AEnd → AHeap → Nat → Prop} (hf : P.funcs[f]? = some fn) (hb : fn.body = some c) (hn : fn.ntmps = nt) (ha : args.length ≤ nt) (hw : aWp P nt c (bodyA P fn R) ⟨tm0 args, h, nx, []⟩) : aCalls P f args h nx R := by
  intro B w0 O σ w vs hs hx hk hv
  refine calls_of_wp hf hb (wp_mono (hw B w0 O σ _ w ⟨hs, fun t => ?_, ?_, hx, trivial⟩ hk) ?_)
  · have hl := hv.1
    simp only [tm0]
    by_cases ht : t < args.length
    · rw [List.getElem?_eq_getElem ht]
      simp only [Option.getD_some]
      have h2 : (vs ++ Array.replicate (fn.ntmps - vs.size) undef).getD t undef = vs.toList[t]'(by omega) := by
        simp only [Array.length_toList] at hl
        rw [Array.getD_eq_getD_getElem?, Array.getElem?_append_left (by omega)]
        simp [show t < vs.size by omega]
      rw [h2]
      exact hv.2 t _ _ (List.getElem?_eq_getElem ht) (List.getElem?_eq_getElem _)
    · rw [List.getElem?_eq_none (by omega)]
      simp only [Option.getD_none]
      have h2 : (vs ++ Array.replicate (fn.ntmps - vs.size) undef).getD t undef = undef := by
        simp only [Array.length_toList] at hl
        rw [Array.getD_eq_getD_getElem?, Array.getElem?_append_right (by omega)]
        rw [Array.getElem?_replicate]
        split <;> rfl
      rw [h2]
      exact VR.tup_iff.2 ⟨[], rfl, .nil⟩
  · have hl := hv.1
    simp only [Array.length_toList] at hl
    simp
    omega
  · rintro e a w' ⟨ax, s, σ', h1, h2, h3, h4⟩
    have fin : s.df = [] → (∃ v, resA P s fn.results.toList = some v ∧ R (.ret v) s.h s.nx) → a.defers = [] ∧ ∃ v, (results fn a.tmps).run P w' = .ok v w' ∧ ∃ ae h' nx' σ', ER σ' w' (Held σ' h') B ae (.returned v) ∧ SR B w0 σ' h' w' ∧ (∀ n, nx' ≤ n → σ' n = none) ∧ Keep B O σ' h' w' nx' ∧ R ae h' nx' := by
      rintro hd ⟨v, hv1, hv2⟩
      have hd2 := h2.df
      rw [hd] at hd2
      obtain ⟨cv, h5, h6⟩ := resA_ok (P := P) h2 hv1
      exact ⟨hd2.nil, cv, h5, _, _, _, _, .ret v cv h6, h2.sr, h2.nx, h3, hv2⟩
    cases h1 with
    | norm => exact fin h4.1 h4.2
    | ex id => exact h4.elim
    | gt l => exact h4.elim
    | ret => exact fin h4.1 h4.2
    | pan v u hv =>
      have hd2 := h2.df
      rw [h4.1] at hd2
      exact ⟨hd2.nil, _, _, _, _, .pan v u hv, h2.sr, h2.nx, h3, h4.2⟩
theorem aCalls_mono {f : FuncId} {args : List AV} {h : AHeap} {nx : Nat} {R R' : AEnd → AHeap → Nat → Prop} (hc : aCalls P f args h nx R) (hr : ∀ e h' k', R e h' k' → R' e h' k') : aCalls P f args h nx R' := fun B w0 O σ w vs hs hx hk hv =>
  (hc B w0 O σ w vs hs hx hk hv).mono fun e w' ⟨ae, h', nx', σ', h1, h2, h3, h4, h5⟩ => ⟨ae, h', nx', σ', h1, h2, h3, h4, hr _ _ _ h5⟩
end
end Go.Proofs.Ytcnofpoffdjbpaa.AE
