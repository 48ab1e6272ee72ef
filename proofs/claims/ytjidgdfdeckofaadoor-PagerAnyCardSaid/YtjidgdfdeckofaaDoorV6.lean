/- Texts C4, C6. -/
import Derived.Test.YtjidgdfdeckofaaDoorV5
import Derived.Defers
import Derived.Recover
/- Functions that end as they will; rows frozen within memory. No program in sight. -/
namespace Go.Proofs.YtjidgdfdeckofaaDoor.AE
open Go Go.RowKit
set_option linter.unusedVariables false
set_option linter.unusedSimpArgs false
variable {P : Program}
section
variable {nt : Nat} {h : AHeap} {nx : Nat}
def endR (P : Program) (fn : Func) (R : AV → AHeap → Nat → Prop) : AX → St → Prop
  | .norm, s | .ret, s => s.df = [] ∧ ∃ a, resA P s fn.results.toList = some a ∧ R a s.h s.nx
  | _, _ => False
theorem aR_body {f : FuncId} {fn : Func} {c : Code} {args : List AV} {R : AV → AHeap → Nat → Prop} (hf : P.funcs[f]? = some fn) (hb : fn.body = some c) (hn : fn.ntmps = nt) (ha : args.length ≤ nt)
    (hw : (∀ a ∈ args, Real a) → (∀ n, nx ≤ n → h n = none) → aWp P nt c (endR P fn R) ⟨tm0 args, h, nx, []⟩) : aCalls P f args h nx (fun e h' k' => ∃ a, e = .ret a ∧ R a h' k') := aCalls_real fun hreal hfresh => by
  refine aCalls_body hf hb hn ha (aWp_mono (hw hreal hfresh) ?_)
  rintro e s hs
  cases e with
  | norm => obtain ⟨q1, a, q2, q3⟩ := hs; exact ⟨q1, a, q2, a, rfl, q3⟩
  | ret => obtain ⟨q1, a, q2, q3⟩ := hs; exact ⟨q1, a, q2, a, rfl, q3⟩
  | ex id => exact hs.elim
  | gt l => exact hs.elim
  | pan v => exact hs.elim
/-- What is of no use any more is let go at the end. -/
theorem aCalls_clean {f : FuncId} {args : List AV} {R R' : AV → AHeap → Nat → Prop} (hc : aCalls P f args h nx (fun e h' k' => ∃ a, e = .ret a ∧ R a h' k'))
    (hR : ∀ a h' k', R a h' k' → ∃ D : Nat → Bool, R' a (fun i => if D i = true then none else h' i) k') : aCalls P f args h nx (fun e h' k' => ∃ a, e = .ret a ∧ R' a h' k') := by
  intro B w0 O σ w vs hs hx hk hv
  refine (hc B w0 O σ w vs hs hx hk hv).mono ?_
  rintro e w' ⟨ae, h', nx', σ', g1, g2, g3, g4, a, rfl, g5⟩
  obtain ⟨D, hD⟩ := hR a h' nx' g5
  obtain ⟨d1, d2⟩ := g2.drop D
  cases g1 with
  | ret _ u hu =>
  exact ⟨_, _, nx', σ', .ret _ u (d2 _ _ hu), d1, g3, g4.trans d2 (Nat.le_refl _) (fun _ _ => rfl), a, rfl, hD⟩
theorem W_endR {fn : Func} {tm : Nat → AV} {k : Nat} {rs : List ResultVar} {a : AV} {R : AV → AHeap → Nat → Prop} (hrs : fn.results.toList = rs) (hr : resA P ⟨tm, h, k, []⟩ rs = some a) (hR : R a h k) : endR P fn R .ret ⟨tm, h, k, []⟩ := ⟨rfl, a, by rw [hrs]; exact hr, hR⟩
theorem W_endRn {fn : Func} {tm : Nat → AV} {k : Nat} {rs : List ResultVar} {a : AV} {R : AV → AHeap → Nat → Prop} (hrs : fn.results.toList = rs) (hr : resA P ⟨tm, h, k, []⟩ rs = some a) (hR : R a h k) : endR P fn R .norm ⟨tm, h, k, []⟩ := ⟨rfl, a, by rw [hrs]; exact hr, hR⟩
end
theorem frzN_one {n : Nat} {b : Blk} {a : AV} (h : a.one = true) : (frzN n b a).one = true := by
  unfold frzN
  split
  · split <;> rfl
  · exact h
/-- A row that lies in memory is frozen. -/
theorem Sub.freezeH {st : St} {m z : Nat} {b bm : Blk} (hz : st.h z = some b) (hm : st.h m = some bm) (hne : m ≠ z) : Sub st ⟨st.tm, upd (upd st.h z none) m (some ⟨bm.sz, bm.es.map fun e => e.map (frzN z b)⟩), st.nx, st.df⟩ := ⟨Nat.le_refl _, fun ρ B w0 nt σ act w hr => by
  obtain ⟨d1, d2⟩ := hr.sr.drop (fun i => decide (i = z))
  have hfz := fun (off len : Nat) (v : Value) (hl : off + len ≤ b.es.length) (hv : VR σ w (Held σ st.h) B (.hs z off len) v) => VR.freeze hr.sr (fun i => decide (i = z)) hz (by simp) hl hv
  rw [kill_eq] at d1 d2
  simp only [kill_eq] at hfz
  have hm1 : upd st.h z none m = some bm := by rw [upd_ne _ _ _ hne]; exact hm
  have hsome : ∀ n, (upd (upd st.h z none) m (some ⟨bm.sz, bm.es.map fun e => e.map (frzN z b)⟩) n).isSome = (upd st.h z none n).isSome := fun n => by
    by_cases e : n = m
    · subst e; rw [upd_same, hm1]; rfl
    · rw [upd_ne _ _ _ e]
  have hheld : Held σ (upd (upd st.h z none) m (some ⟨bm.sz, bm.es.map fun e => e.map (frzN z b)⟩)) = Held σ (upd st.h z none) := by
    funext q i
    apply propext
    constructor
    · rintro ⟨n, r, h1, h2⟩; exact ⟨n, r, by rw [← hsome]; exact h1, h2⟩
    · rintro ⟨n, r, h1, h2⟩; exact ⟨n, r, by rw [hsome]; exact h1, h2⟩
  have keep : ∀ a v, VR σ w (Held σ st.h) B a v → VR σ w (Held σ (upd (upd st.h z none) m (some ⟨bm.sz, bm.es.map fun e => e.map (frzN z b)⟩))) B a v := fun a v q => by rw [hheld]; exact d2 a v q
  refine ⟨⟨⟨d1.old, d1.hB, fun n k hn => ?_, fun n n' r s q i h1 h2 => ?_⟩, fun t => keep _ _ (hr.tr t), hr.nt, hr.nx, hr.df.mono ⟨keep, .refl _⟩, ρ.pres hr.iv ⟨keep, .refl _⟩⟩, keep⟩
  · dsimp only at hn
    by_cases e : n = m
    · subst e
      rw [upd_same] at hn
      cases hn
      obtain ⟨r, q1, q2, q3, q4, q5, q6, q7⟩ := hr.sr.blk n bm hm
      refine ⟨r, q1, q2, q3, by simpa using q4, by simpa using q5, q6, fun i e he => ?_⟩
      rw [List.getElem?_map] at he
      obtain ⟨e0, h0, rfl⟩ := Option.map_eq_some_iff.1 he
      obtain ⟨g1, g2⟩ := q7 i e0 h0
      refine ⟨by simpa using g1, fun j a ha => ?_⟩
      rw [List.getElem?_map] at ha
      obtain ⟨a0, ha0, rfl⟩ := Option.map_eq_some_iff.1 ha
      obtain ⟨g3, v, g4, g5, g6⟩ := g2 j a0 ha0
      refine ⟨frzN_one g3, v, g4, g5, ?_⟩
      rw [hheld]
      unfold frzN
      split
      · split
        · rename_i hc
          obtain ⟨rfl, hl⟩ := hc
          exact hfz _ _ _ hl g6
        · exact d2 _ _ g6
      · exact d2 _ _ g6
    · rw [upd_ne _ _ _ e] at hn
      obtain ⟨r, q1, q2, q3, q4, q5, q6, q7⟩ := d1.blk n k hn
      refine ⟨r, q1, q2, q3, q4, q5, q6, fun i e he => ⟨(q7 i e he).1, fun j a ha => ?_⟩⟩
      obtain ⟨g3, v, g4, g5, g6⟩ := (q7 i e he).2 j a ha
      exact ⟨g3, v, g4, g5, by rw [hheld]; exact g6⟩
  · dsimp only at h1 h2
    rw [hsome] at h1 h2
    exact d1.dis n n' r s q i h1 h2⟩
def nilA (v : AV) (h : AHeap) (k : Nat) : Option (AV × AHeap × Nat) := match v with
  | .ptr n e j => some (.ptr n e j, h, k)
  | .ip cs => some (.ip cs, h, k)
  | _ => none
/-- A pointer that is asked whether it is none. -/
theorem NL : (∀ (P : Program) (x : Operand) (tm : Nat → AV) (h : AHeap) (k : Nat), aop P (.nilCheck x) tm h k = nilA (evA tm x) h k) ∧ (∀ (n e j : Nat) (h : AHeap) (k : Nat), nilA (.ptr n e j) h k = some (.ptr n e j, h, k)) ∧ (∀ (cs : List AV) (h : AHeap) (k : Nat), nilA (.ip cs) h k = some (.ip cs, h, k)) :=
  ⟨fun _ _ _ _ _ => rfl, fun _ _ _ _ _ => rfl, fun _ _ _ => rfl⟩
/-- A call that reads what is owned, within a region that draws its order. -/
theorem D_e {opl : List Oper} {i k : Nat} {acc : List Ac} {K : (Nat → AV) → AHeap → Prop} {rest : List Oper} {tm : Nat → AV} {h : AHeap} {d : Nat} {ty : TypeId} {pos : String} {after : Array Edge} {v : AV} (R : List Nat) {c : Call} {f : FuncId} {args : List AV} (ha : calleeW tm c = some (f, args)) (hc : callable P f = true) (hf : ∀ (g : AHeap) (nx : Nat), RdEq g h R → aEff P f args g nx v g)
    (hr : DrawP P opl k K (i + 1) rest (upd tm d v) h (acc ++ [⟨v, R, []⟩])) : DrawP P opl k K i (⟨some d, .call c, ty, pos, after, none⟩ :: rest) tm h acc :=
  .cons (a := ⟨v, R, []⟩) (.inr ⟨rfl, .inr (.inl ⟨c, f, args, rfl, ha, hc, fun g nx hg => aCalls_mono (hf g nx (rdEq_of hg)) fun e h' k' q => ⟨q.1, q.2.1⟩⟩)⟩) hr
end Go.Proofs.YtjidgdfdeckofaaDoor.AE

/- Panics, calls that are put off, recover. No program in sight. -/
namespace Go.Proofs.YtjidgdfdeckofaaDoor.AE
open Go Go.RowKit
set_option linter.unusedVariables false
set_option linter.unusedSimpArgs false
variable {P : Program}
section
variable {nt : Nat} {Q : AX → St → Prop} {ops : Array Oper} {rest : List Oper} {tm : Nat → AV} {h : AHeap} {k : Nat} {df : List ADef} {ty : TypeId} {pos : String} {after : Array Edge} {dst : Option Tmp}
/-- A call is put off. -/
theorem dfr_ {x : Operand} {asl : Array Operand} {ts : Array TypeId} {f : FuncId} {first cap : List AV} (hr : aOps P nt ops rest Q ⟨putA tm dst .undef, h, k, ⟨.func f, cap, first ++ asl.toList.map (evA tm)⟩ :: df⟩) (hx : evA tm x = .fn (.func f) first cap := by first | rfl | (simp (disch := first | rfl | decide | omega | assumption | (simp only [LL]; omega)) only [WS, NB, WY, FX.out]; first | done | rfl)) (hd : dstOk nt dst = true := by rfl) :
    aOps P nt ops (⟨dst, .defer ⟨.value x, asl, ts⟩, ty, pos, after, none⟩ :: rest) Q ⟨tm, h, k, df⟩ := fun B w0 O σ act w hrl hk => by
  have hw := guardA_ok (ops := ops) (o := ⟨dst, .defer ⟨.value x, asl, ts⟩, ty, pos, after, none⟩) hrl.tr rfl
  unfold wpListIn
  rw [if_pos (by rw [hw])]
  refine ⟨fun _ _ => trivial, ?_⟩
  have h1 := hrl.tr.eval x
  rw [hx] at h1
  generalize hcc : act.eval x = cc at h1
  cases h1 with
  | fn _ _ _ us vs hl hm ha hv =>
  have h2 := args_rel hrl.tr asl
  have he : (execOp act.eval ⟨dst, .defer ⟨.value x, asl, ts⟩, ty, pos, after, none⟩).run P w = .ok (.defer ⟨.fn (.func f) vs, us ++ asl.map act.eval⟩) w := by
    simp only [execOp, resolve, hcc, Deferred.ofValue, pure_bind]
    rfl
  have he2 : (Oper.semAt (@fnc rnd0).round act.eval ⟨dst, .defer ⟨.value x, asl, ts⟩, ty, pos, after, none⟩).run P w = .ok (.defer ⟨.fn (.func f) vs, us ++ asl.map act.eval⟩) w := he
  rw [he2]
  show wpListIn (@fnc rnd0) 0 P ops _ rest _ w
  have hr1 : Rel B w0 nt σ ⟨tm, h, k, ⟨.func f, cap, first ++ asl.toList.map (evA tm)⟩ :: df⟩ { act with defers := ⟨.fn (.func f) vs, us ++ asl.map act.eval⟩ :: act.defers } w :=
    ⟨hrl.sr, hrl.tr, hrl.nt, hrl.nx, ⟨⟨vs, rfl, ⟨by simpa using hm, fun j c v q r => hv j c v q (by simpa using r)⟩, by
      rw [Array.toList_append]
      exact VRs.append ⟨by simpa using hl, fun j c v q r => ha j c v q (by simpa using r)⟩ h2⟩, hrl.df⟩, hrl.iv⟩
  exact hr B w0 O σ _ w (hr1.put hr1.sr .refl hr1.nx dst hd (.undef _)) hk
/-- It panics. -/
theorem pn_ [ρ : Rnd] {x : Operand} {t : TypeId} {v : AV} {guard : Option (Nat × Bool)} (hr : Q (.pan (.iface t v)) ⟨tm, h, k, df⟩) (hx : evA tm x = .iface t v := by first | rfl | (simp (disch := first | rfl | decide | omega | assumption | (simp only [LL]; omega)) only [WS, NB, WY, FX.out]; first | done | rfl)) (hg : guardA ops tm guard = some true := by rfl) :
    aOps P nt ops (⟨dst, .panic x, ty, pos, after, guard⟩ :: rest) Q ⟨tm, h, k, df⟩ := fun B w0 O σ act w hrl hk => by
  have hw := guardA_ok (ops := ops) (o := ⟨dst, .panic x, ty, pos, after, guard⟩) hrl.tr hg
  refine wpl_step hw (by intro c e; cases e) ?_
  have h1 := hrl.tr.eval x
  rw [hx] at h1
  generalize hcc : act.eval x = cc at h1
  cases h1 with
  | iface _ _ v' hv =>
  have he : (execOp act.eval ⟨dst, .panic x, ty, pos, after, guard⟩).run P w = .halt (.panic (.iface t v')) w := by
    simp only [execOp, hcc]
    rfl
  rw [he]
  exact ⟨_, _, σ, .pan _ _ (.iface t v v' hv), hrl, hk, hr⟩
end
/-! ### code that may recover -/
inductive SM where
  | idle
  | pan (v : AV) (rec : Bool)
inductive SMR (σ : Sig) (w : World) (X : Nat → Nat → Prop) (B : Nat) : SM → FrameMode → Prop
  | idle : SMR σ w X B .idle .returning
  | pan (a : AV) (v : Value) (b : Bool) (h : VR σ w X B a v) : SMR σ w X B (.pan a b) (.panicking [{ v := v, recovered := b }])
theorem SMR.mono {σ σ' : Sig} {w w' : World} {X X' : Nat → Nat → Prop} {B : Nat} {m : SM} {u : FrameMode} (k : ∀ a v, VR σ w X B a v → VR σ' w' X' B a v) (h : SMR σ w X B m u) : SMR σ' w' X' B m u := by
  cases h with
  | idle => exact .idle
  | pan a v b h => exact .pan a v b (k _ _ h)
def postS (nt : Nat) (B : Nat) (w0 : World) (O : Orig) (c0 : Frame) (cs : List Frame) (Q : AX → SM → St → Prop) (e : Exit) (act : Act) (cs' : List Frame) (w : World) : Prop :=
  ∃ ax m st σ u, XR σ w (Held σ st.h) B ax e ∧ Rel B w0 nt σ st act w ∧ Keep B O σ st.h w st.nx ∧ cs' = { c0 with mode := u } :: cs ∧ SMR σ w (Held σ st.h) B m u ∧ Q ax m st
def aWpS (P : Program) (nt : Nat) (c : Code) (Q : AX → SM → St → Prop) (m : SM) (st : St) : Prop :=
  ∀ B w0 O σ act w (c0 : Frame) (cs : List Frame) u, Rel B w0 nt σ st act w → Keep B O σ st.h w st.nx → SMR σ w (Held σ st.h) B m u → c.wpS P (postS nt B w0 O c0 cs Q) act ({ c0 with mode := u } :: cs) w
/-- What an operation list does in such code. -/
def wpLS (P : Program) (ops : Array Oper) (Q : Exit → Act → List Frame → World → Prop) : List Oper → Act → List Frame → World → Prop
  | [], a, cs, w => Q .normal a cs w
  | o :: rest, a, cs, w =>
      if Region.wanted o (yielded ops a.tmps) then
        match (execOp a.eval o).run P w with
        | .ok .recover w' =>
          match recoverD cs with
          | some (v, cs') => wpLS P ops Q rest (a.put o.dst v) cs' w'
          | none => wpLS P ops Q rest (a.put o.dst .nilIface) cs w'
        | r => o.upon P a (fun a' w' => wpLS P ops Q rest a' cs w') (fun e a' w' => Q e a' cs w') r
      else wpLS P ops Q rest (a.put o.dst undef) cs w
theorem wpLS_ok {ops : Array Oper} {Q : Exit → Act → List Frame → World → Prop} : ∀ (l pre : List Oper), ops = (pre ++ l).toArray → ∀ {a : Act} {cs : List Frame} {w : World}, wpLS P ops Q l a cs w → wpOpsS P ops Q (List.range' pre.length l.length) a cs w
  | [], pre, _, a, cs, w, h => h
  | o :: l, pre, he, a, cs, w, h => by
    have ho : ops[pre.length]? = some o := by rw [he]; simp
    have ih := fun {a : Act} {cs : List Frame} {w : World} => wpLS_ok (Q := Q) l (pre ++ [o]) (by simpa using he) (a := a) (cs := cs) (w := w)
    simp only [List.length_append, List.length_cons, List.length_nil, Nat.zero_add] at ih
    rw [List.length_cons, List.range'_succ]
    unfold wpOpsS
    unfold wpLS at h
    simp only [ho]
    have hfun : ∀ cs, (fun (a' : Act) (w' : World) => wpLS P ops Q l a' cs w') = fun a' w' => wpLS P ops Q l a' cs w' := fun _ => rfl
    split
    · rename_i hw
      rw [if_pos hw] at h
      split
      · rename_i w' hr
        rw [hr] at h
        simp only at h
        split
        · rename_i v cs' hrec
          rw [hrec] at h
          exact ih h
        · rename_i hrec
          rw [hrec] at h
          exact ih h
      · rename_i r hnot
        generalize hr : (execOp a.eval o).run P w = r' at h hnot ⊢
        split at h
        · rename_i w'
          exact absurd rfl (hnot w')
        · unfold Oper.upon at h ⊢
          split at h <;> first | exact ih h | exact h | skip
          · refine (h : Calls _ _ _ _ _).mono ?_
            intro e w' q
            cases e <;> first | exact ih q | exact q
          · intro b k
            obtain ⟨v, w', q1, q2⟩ := h b k
            exact ⟨v, w', ih q1, q2⟩
    · rename_i hw
      rw [if_neg hw] at h
      exact ih h
def aOpsS (P : Program) (nt : Nat) (ops : Array Oper) (l : List Oper) (Q : AX → SM → St → Prop) (m : SM) (st : St) : Prop :=
  ∀ B w0 O σ act w (c0 : Frame) (cs : List Frame) u, Rel B w0 nt σ st act w → Keep B O σ st.h w st.nx → SMR σ w (Held σ st.h) B m u → wpLS P ops (postS nt B w0 O c0 cs Q) l act ({ c0 with mode := u } :: cs) w
section
variable {nt : Nat} {Q : AX → SM → St → Prop} {m : SM} {st : St} {c : Code} {ops : Array Oper} {rest : List Oper} {tm : Nat → AV} {h h' : AHeap} {k k' : Nat} {df : List ADef} {op : Op} {ty : TypeId} {pos : String} {after : Array Edge} {d : Nat} {v : AV}
theorem S_of (hw : aWp P nt c (fun ax s => Q ax m s) st) : aWpS P nt c Q m st := fun B w0 O σ act w c0 cs u hr hk hm => by
  refine wpS_of_wp (wp_mono (wpR.1 (hw B w0 ⟨σ, st.h, w, st.nx⟩ σ act w hr (.refl _ _ _ _))) ?_)
  rintro e a w' ⟨ax, s, σ', h1, h2, h3, h4⟩
  exact ⟨ax, m, s, σ', u, h1, h2, hk.trans h3.vr h3.nx h3.σ, rfl, hm.mono h3.vr, h4⟩
def AX.thenS (K : SM → St → Prop) (Q : AX → SM → St → Prop) : AX → SM → St → Prop
  | .norm, m, s => K m s
  | e, m, s => Q e m s
theorem S_seq {x y : Code} (hw : aWpS P nt x (AX.thenS (aWpS P nt y Q) Q) m st) : aWpS P nt (.seq x y) Q m st := fun B w0 O σ act w c0 cs u hr hk hm => by
  refine wpS_seq ?_
  intro b k hb hro
  obtain ⟨e, a', cs', w', hq, harr⟩ := hw B w0 O σ act w c0 cs u hr hk hm b k hb hro
  refine ⟨e, a', cs', w', ?_, harr⟩
  obtain ⟨ax, m', s, σ', u', h1, h2, h3, rfl, h5, h6⟩ := hq
  cases h1 with
  | norm => exact h6 B w0 O σ' a' w' c0 cs u' h2 h3 h5
  | ex id => exact ⟨_, _, _, _, _, .ex id, h2, h3, rfl, h5, h6⟩
  | gt l => exact ⟨_, _, _, _, _, .gt l, h2, h3, rfl, h5, h6⟩
  | ret => exact ⟨_, _, _, _, _, .ret, h2, h3, rfl, h5, h6⟩
  | pan a v h => exact ⟨_, _, _, _, _, .pan a v h, h2, h3, rfl, h5, h6⟩
theorem S_region {id : Nat} {l : List Oper} (hw : aOpsS P nt l.toArray l Q m st) : aWpS P nt (.region id l.toArray false) Q m st := fun B w0 O σ act w c0 cs u hr hk hm => by
  refine wpS_region ?_
  have := wpLS_ok (P := P) l [] rfl (hw B w0 O σ act w c0 cs u hr hk hm)
  rw [show (l.toArray).size = l.length by simp, List.range_eq_range']
  exact this
theorem S_cond {o : Operand} {x y : Code} {t : Bool} (hc : evA st.tm o = .bool t) (hw : aWpS P nt (if t = true then x else y) Q m st) : aWpS P nt (.cond o x y) Q m st := fun B w0 O σ act w c0 cs u hr hk hm => by
  have h1 := hr.tr.eval o
  rw [hc] at h1
  generalize hcc : act.eval o = cc at h1
  cases h1
  exact wpS_cond hcc (hw B w0 O σ act w c0 cs u hr hk hm)
theorem S_nil (hq : Q .norm m st) : aOpsS P nt ops [] Q m st := fun B w0 O σ act w c0 cs u hr hk hm => ⟨_, _, _, _, _, .norm, hr, hk, rfl, hm, hq⟩
theorem want_none {tm : Nat → AV} {σ : Sig} {w : World} {X : Nat → Nat → Prop} {B : Nat} {act : Act} (ht : TR σ w X B tm act.tmps) {dst : Option Tmp} : Region.wanted ⟨dst, op, ty, pos, after, none⟩ (yielded ops act.tmps) = true := guardA_ok (ops := ops) ht rfl
/-- An operation that answers. -/
theorem S_val (ha : aop P op tm h k = some (v, h', k')) (hk' : k ≤ k') (hd : decide (d < nt) = true) (hw : aOpsS P nt ops rest Q m ⟨upd tm d v, h', k', df⟩) : aOpsS P nt ops (⟨some d, op, ty, pos, after, none⟩ :: rest) Q m ⟨tm, h, k, df⟩ := fun B w0 O σ act w c0 cs u hr hk hm => by
  unfold wpLS
  rw [if_pos (want_none hr.tr)]
  obtain ⟨cv, w', h1, σ', h2, h3, h4, h5⟩ := aop_ok (o := ⟨some d, op, ty, pos, after, none⟩) hr.sr hr.tr (fun n hn _ => hr.nx n hn) ha
  have hr' := hr.put h2 h4 (fun n hn => by rw [h3 n (.inr hn)]; exact hr.nx n (Nat.le_trans hk' hn)) (some d) hd h5
  have := hw B w0 O σ' _ w' c0 cs u hr' (hk.trans h4 hk' (fun n hn => h3 n (.inl hn))) (hm.mono h4)
  rcases h1 with h1 | ⟨h1, rfl⟩
  · rw [h1]; exact this
  · rw [h1]; exact this
/-- A type assertion. -/
theorem S_assert_hit {x : Operand} {xT : TypeId} {t : TypeId} (hx : evA tm x = .iface t v) (ht : (P.underlying t).isSome = true ∧ ∀ ms, P.underlying t ≠ some (.interface ms)) (hd : decide (d < nt) = true) (hw : aOpsS P nt ops rest Q m ⟨upd tm d (.tup [v, .bool true]), h, k, df⟩) : aOpsS P nt ops (⟨some d, .typeAssert x xT t true, ty, pos, after, none⟩ :: rest) Q m ⟨tm, h, k, df⟩ := fun B w0 O σ act w c0 cs u hr hk hm => by
  unfold wpLS
  rw [if_pos (want_none hr.tr)]
  have h1 := hr.tr.eval x
  rw [hx] at h1
  generalize hcc : act.eval x = cc at h1
  cases h1 with
  | iface _ _ v' hv =>
  obtain ⟨D, hD⟩ := Option.isSome_iff_exists.1 ht.1
  have he : (execOp act.eval ⟨some d, .typeAssert x xT t true, ty, pos, after, none⟩).run P w = .ok (.value (.tuple #[v', .bool true])) w := by
    simp only [execOp, hcc, Instr.typeAssert, Sem.run_bind, run_underlying hD, Result.andThen_ok]
    cases D <;> first | (exact absurd hD (ht.2 _)) | simp
  rw [he]
  exact hw B w0 O σ _ w c0 cs u (hr.put hr.sr .refl hr.nx (some d) hd (VR.tup_iff.2 ⟨[v', .bool true], rfl, .cons hv (.cons (.bool true) .nil)⟩)) hk hm
theorem S_assert_nil {x : Operand} {xT : TypeId} {t : TypeId} {z : Value} (hx : evA tm x = .niliface) (ht : (P.underlying t).isSome = true ∧ ∀ ms, P.underlying t ≠ some (.interface ms)) (hz : ∀ w, (zeroValue t).run P w = .ok z w) (hd : decide (d < nt) = true) (hw : aOpsS P nt ops rest Q m ⟨upd tm d (.tup [avOf z, .bool false]), h, k, df⟩) : aOpsS P nt ops (⟨some d, .typeAssert x xT t true, ty, pos, after, none⟩ :: rest) Q m ⟨tm, h, k, df⟩ := fun B w0 O σ act w c0 cs u hr hk hm => by
  unfold wpLS
  rw [if_pos (want_none hr.tr)]
  have h1 := hr.tr.eval x
  rw [hx] at h1
  generalize hcc : act.eval x = cc at h1
  cases h1 with
  | niliface =>
  obtain ⟨D, hD⟩ := Option.isSome_iff_exists.1 ht.1
  have he : (execOp act.eval ⟨some d, .typeAssert x xT t true, ty, pos, after, none⟩).run P w = .ok (.value (.tuple #[z, .bool false])) w := by
    simp only [execOp, hcc, Instr.typeAssert, Sem.run_bind, run_underlying hD, Result.andThen_ok]
    cases D <;> first | (exact absurd hD (ht.2 _)) | simp [Sem.run_bind, hz]
  rw [he]
  exact hw B w0 O σ _ w c0 cs u (hr.put hr.sr .refl hr.nx (some d) hd (VR.tup_iff.2 ⟨[z, .bool false], rfl, .cons (.of z) (.cons (.bool false) .nil)⟩)) hk hm
theorem run_recover (ρ : Operand → Value) (dst : Option Tmp) (w : World) : (execOp ρ ⟨dst, .call ⟨.builtin .recover, #[], #[]⟩, ty, pos, after, none⟩).run P w = .ok .recover w := rfl
theorem S_rec_pan {a : AV} (hd : decide (d < nt) = true) (hw : aOpsS P nt ops rest Q (.pan a true) ⟨upd tm d a, h, k, df⟩) : aOpsS P nt ops (⟨some d, .call ⟨.builtin .recover, #[], #[]⟩, ty, pos, after, none⟩ :: rest) Q (.pan a false) ⟨tm, h, k, df⟩ := fun B w0 O σ act w c0 cs u hr hk hm => by
  unfold wpLS
  rw [if_pos (want_none hr.tr), run_recover]
  cases hm with
  | pan _ v _ hv =>
  simp only [recoverD]
  exact hw B w0 O σ _ w c0 cs _ (hr.put hr.sr .refl hr.nx (some d) hd hv) hk (.pan a v true hv)
theorem S_rec_idle (hd : decide (d < nt) = true) (hw : aOpsS P nt ops rest Q .idle ⟨upd tm d .niliface, h, k, df⟩) : aOpsS P nt ops (⟨some d, .call ⟨.builtin .recover, #[], #[]⟩, ty, pos, after, none⟩ :: rest) Q .idle ⟨tm, h, k, df⟩ := fun B w0 O σ act w c0 cs u hr hk hm => by
  unfold wpLS
  rw [if_pos (want_none hr.tr), run_recover]
  cases hm with
  | idle =>
  simp only [recoverD]
  exact hw B w0 O σ _ w c0 cs _ (hr.put hr.sr .refl hr.nx (some d) hd .niliface) hk .idle
end
/-! ### a deferred function -/
/-- Deferred, in a frame of mode m it returns; the frame's mode is m' then. -/
def aCallsD (P : Program) (f : FuncId) (args : List AV) (m : SM) (h : AHeap) (nx : Nat) (m' : SM) (R : AHeap → Nat → Prop) : Prop :=
  ∀ B w0 O σ w (vs : Array Value) u, SR B w0 σ h w → (∀ n, nx ≤ n → σ n = none) → Keep B O σ h w nx → VRs σ w (Held σ h) B args vs.toList → SMR σ w (Held σ h) B m u →
    CallsD P f vs u w fun e u' w' => (∃ r, e = .returned r) ∧ ∃ h' nx' σ', SMR σ' w' (Held σ' h') B m' u' ∧ SR B w0 σ' h' w' ∧ (∀ n, nx' ≤ n → σ' n = none) ∧ Keep B O σ' h' w' nx' ∧ R h' nx'
def bodyS (P : Program) (fn : Func) (m' : SM) (R : AHeap → Nat → Prop) : AX → SM → St → Prop
  | .norm, m, s | .ret, m, s => m = m' ∧ s.df = [] ∧ (∃ v, resA P s fn.results.toList = some v) ∧ R s.h s.nx
  | _, _, _ => False
theorem aCallsD_body {f : FuncId} {fn : Func} {c : Code} {args : List AV} {m m' : SM} {nt : Nat} {h : AHeap} {nx : Nat} {R : AHeap → Nat → Prop} (hf : P.funcs[f]? = some fn) (hb : fn.body = some c) (hn : fn.ntmps = nt) (ha : args.length ≤ nt)
    (hw : aWpS P nt c (bodyS P fn m' R) m ⟨tm0 args, h, nx, []⟩) : aCallsD P f args m h nx m' R := by
  intro B w0 O σ w vs u hs hx hk hv hm
  refine callsD_of_wpS hf hb fun c₀ cs hu => ?_
  subst hu
  have hrel : Rel B w0 nt σ ⟨tm0 args, h, nx, []⟩ { tmps := vs ++ Array.replicate (fn.ntmps - vs.size) undef, defers := [] } w := by
    refine ⟨hs, fun t => ?_, ?_, hx, trivial, trivial⟩
    · have hl := hv.1
      simp only [tm0]
      by_cases ht : t < args.length
      · rw [List.getElem?_eq_getElem ht]
        simp only [Option.getD_some]
        have h2 : (vs ++ Array.replicate (fn.ntmps - vs.size) undef).getD t undef = vs.toList[t]'(by omega) := by
          simp only [Array.length_toList] at hl
          rw [Array.getD_eq_getD_getElem?, Array.getElem?_append_left (by omega)]
          simp [show t < vs.size by omega]
        rw [h2]
        exact hv.2 t _ _ (List.getElem?_eq_getElem ht) (List.getElem?_eq_getElem _)
      · rw [List.getElem?_eq_none (by omega)]
        simp only [Option.getD_none]
        have h2 : (vs ++ Array.replicate (fn.ntmps - vs.size) undef).getD t undef = undef := by
          simp only [Array.length_toList] at hl
          rw [Array.getD_eq_getD_getElem?, Array.getElem?_append_right (by omega)]
          rw [Array.getElem?_replicate]
          split <;> rfl
        rw [h2]
        exact VR.tup_iff.2 ⟨[], rfl, .nil⟩
    · have hl := hv.1
      simp only [Array.length_toList] at hl
      simp
      omega
  have := hw B w0 O σ _ w c₀ cs c₀.mode hrel hk hm
  intro b k hbk hro
  obtain ⟨e, a', cs', w', hq, harr⟩ := this b k hbk hro
  refine ⟨e, a', cs', w', ?_, harr⟩
  obtain ⟨ax, m1, s, σ', u', h1, h2, h3, rfl, h5, h6⟩ := hq
  have fin : m1 = m' ∧ s.df = [] ∧ (∃ v, resA P s fn.results.toList = some v) ∧ R s.h s.nx → a'.defers = [] ∧ ∃ u'', { c₀ with mode := u' } :: cs = { c₀ with mode := u'' } :: cs ∧ ∃ v, (results fn a'.tmps).run P w' = .ok v w' ∧ (∃ r, Ending.returned v = .returned r) ∧ ∃ h' nx' σ', SMR σ' w' (Held σ' h') B m' u'' ∧ SR B w0 σ' h' w' ∧ (∀ n, nx' ≤ n → σ' n = none) ∧ Keep B O σ' h' w' nx' ∧ R h' nx' := by
    rintro ⟨rfl, q1, ⟨v, q2⟩, q3⟩
    have hd2 := h2.df
    rw [q1] at hd2
    obtain ⟨cv, h7, _⟩ := resA_ok (P := P) h2 q2
    exact ⟨hd2.nil, u', rfl, cv, h7, ⟨cv, rfl⟩, _, _, σ', h5, h2.sr, h2.nx, h3, q3⟩
  cases h1 with
  | norm => exact fin h6
  | ret => exact fin h6
  | ex id => exact h6.elim
  | gt l => exact h6.elim
  | pan v u hv => exact h6.elim
/-! ### a function that puts off one call -/
def bodyD (P : Program) (fn : Func) (R : AEnd → AHeap → Nat → Prop) : AX → St → Prop
  | .norm, s | .ret, s => (s.df = [] ∧ ∃ v, resA P s fn.results.toList = some v ∧ R (.ret v) s.h s.nx) ∨
      ∃ g cap, s.df = [⟨.func g, cap, []⟩] ∧ callable P g = true ∧ aCallsD P g cap .idle s.h s.nx .idle (fun h' k' => ∃ v, resA P ⟨s.tm, h', k', []⟩ fn.results.toList = some v ∧ R (.ret v) h' k')
  | .pan v, s => (s.df = [] ∧ R (.pan v) s.h s.nx) ∨
      ∃ g cap, s.df = [⟨.func g, cap, []⟩] ∧ callable P g = true ∧ aCallsD P g cap (.pan v false) s.h s.nx (.pan v true) (fun h' k' => ∃ a, resA P ⟨s.tm, h', k', []⟩ fn.results.toList = some a ∧ R (.ret a) h' k')
  | _, _ => False
theorem DR.one {σ : Sig} {w : World} {X : Nat → Nat → Prop} {B : Nat} {g : FuncId} {cap : List AV} : ∀ {ds : List Deferred}, DR σ w X B [⟨.func g, cap, []⟩] ds → ∃ cs : Array Value, ds = [⟨.fn (.func g) cs, #[]⟩] ∧ VRs σ w X B cap cs.toList
  | [], h => h.elim
  | [d], ⟨⟨cs, h1, h2, h3⟩, _⟩ => ⟨cs, by
      obtain ⟨t, al⟩ := d
      simp only at h1
      subst h1
      have : al = #[] := by
        have := h3.1
        simp at this
        exact Array.eq_empty_of_size_eq_zero this.symm
      subst this
      rfl, h2⟩
  | _ :: _ :: _, ⟨_, h⟩ => h.elim
theorem aCalls_defer {f : FuncId} {fn : Func} {c : Code} {args : List AV} {nt : Nat} {h : AHeap} {nx : Nat} {R : AEnd → AHeap → Nat → Prop} (hf : P.funcs[f]? = some fn) (hb : fn.body = some c) (hn : fn.ntmps = nt) (ha : args.length ≤ nt)
    (hw : aWp P nt c (bodyD P fn R) ⟨tm0 args, h, nx, []⟩) : aCalls P f args h nx R := by
  intro B w0 O σ w vs hs hx hk hv
  refine calls_of_wp_defers hf hb (wp_mono (wpR.1 (hw B w0 O σ _ w ⟨hs, fun t => ?_, ?_, hx, trivial, trivial⟩ hk)) ?_)
  · have hl := hv.1
    simp only [tm0]
    by_cases ht : t < args.length
    · rw [List.getElem?_eq_getElem ht]
      simp only [Option.getD_some]
      have h2 : (vs ++ Array.replicate (fn.ntmps - vs.size) undef).getD t undef = vs.toList[t]'(by omega) := by
        simp only [Array.length_toList] at hl
        rw [Array.getD_eq_getD_getElem?, Array.getElem?_append_left (by omega)]
        simp [show t < vs.size by omega]
      rw [h2]
      exact hv.2 t _ _ (List.getElem?_eq_getElem ht) (List.getElem?_eq_getElem _)
    · rw [List.getElem?_eq_none (by omega)]
      simp only [Option.getD_none]
      have h2 : (vs ++ Array.replicate (fn.ntmps - vs.size) undef).getD t undef = undef := by
        simp only [Array.length_toList] at hl
        rw [Array.getD_eq_getD_getElem?, Array.getElem?_append_right (by omega)]
        rw [Array.getElem?_replicate]
        split <;> rfl
      rw [h2]
      exact VR.tup_iff.2 ⟨[], rfl, .nil⟩
  · have hl := hv.1
    simp only [Array.length_toList] at hl
    simp
    omega
  · rintro e a w' ⟨ax, s, σ', h1, h2, h3, h4⟩
    have inv : ∀ (g : FuncId) (cs : Array Value) (w : World), callable P g = true → (invoke (.fn (.func g) cs) #[]).run P w = .ok (.enter g cs) w := fun g cs w hc => by
      simp only [invoke]
      rw [show (#[] : Array Value) ++ cs = cs by simp]
      exact run_callFunc hc cs w
    have res : ∀ {h' : AHeap} {k' : Nat} {σ2 : Sig} {w2 : World} {v : AV}, SR B w0 σ2 h' w2 → (∀ n, k' ≤ n → σ2 n = none) → Keep B ⟨σ', s.h, w', s.nx⟩ σ2 h' w2 k' → resA P ⟨s.tm, h', k', []⟩ fn.results.toList = some v → ∃ cv, (results fn a.tmps).run P w2 = .ok cv w2 ∧ VR σ2 w2 (Held σ2 h') B v cv := fun {h' k' σ2 w2 v} q1 q2 q3 q4 =>
      resA_ok (P := P) (st := ⟨s.tm, h', k', []⟩) (act := { a with defers := [] }) (w0 := w0) (nt := nt) ⟨q1, fun t => q3.vr _ _ (h2.tr t), h2.nt, q2, trivial, trivial⟩ q4
    have fin : ((s.df = [] ∧ ∃ v, resA P s fn.results.toList = some v ∧ R (.ret v) s.h s.nx) ∨ ∃ g cap, s.df = [⟨.func g, cap, []⟩] ∧ callable P g = true ∧ aCallsD P g cap .idle s.h s.nx .idle (fun h' k' => ∃ v, resA P ⟨s.tm, h', k', []⟩ fn.results.toList = some v ∧ R (.ret v) h' k')) →
        Leaves P fn a.tmps (fun e w' => ∃ ae h' nx' σ', ER σ' w' (Held σ' h') B ae e ∧ SR B w0 σ' h' w' ∧ (∀ n, nx' ≤ n → σ' n = none) ∧ Keep B O σ' h' w' nx' ∧ R ae h' nx') a.defers .returning w' := by
      rintro (⟨hd, v, hv1, hv2⟩ | ⟨g, cap, hd, hcg, hc⟩)
      · have hd2 := h2.df
        rw [hd] at hd2
        obtain ⟨cv, h5, h6⟩ := resA_ok (P := P) h2 hv1
        rw [hd2.nil]
        exact ⟨cv, h5, _, _, _, _, .ret v cv h6, h2.sr, h2.nx, h3, hv2⟩
      · have hd2 := h2.df
        rw [hd] at hd2
        obtain ⟨cs, hcs, hvs⟩ := hd2.one
        rw [hcs]
        refine leaves_cons (by simp) (inv g cs w' hcg) ((hc B w0 ⟨σ', s.h, w', s.nx⟩ σ' w' cs .returning h2.sr h2.nx (.refl _ _ _ _) hvs .idle).mono ?_)
        rintro e u2 w2 ⟨⟨r, rfl⟩, h', k', σ2, g1, g2, g3, g4, v, g5, g6⟩
        cases g1 with
        | idle =>
        obtain ⟨cv, g7, g8⟩ := res g2 g3 g4 g5
        exact ⟨cv, g7, _, _, _, _, .ret v cv g8, g2, g3, h3.trans g4.vr g4.nx g4.σ, g6⟩
    cases h1 with
    | norm => exact fin h4
    | ret => exact fin h4
    | ex id => exact h4.elim
    | gt l => exact h4.elim
    | pan v u hv =>
      rcases h4 with ⟨hd, hR⟩ | ⟨g, cap, hd, hcg, hc⟩
      · have hd2 := h2.df
        rw [hd] at hd2
        show Leaves P fn a.tmps _ a.defers _ w'
        rw [hd2.nil]
        exact ⟨_, _, _, _, .pan v u hv, h2.sr, h2.nx, h3, hR⟩
      · have hd2 := h2.df
        rw [hd] at hd2
        obtain ⟨cs, hcs, hvs⟩ := hd2.one
        show Leaves P fn a.tmps _ a.defers _ w'
        rw [hcs]
        refine leaves_cons (by simp) (inv g cs w' hcg) ((hc B w0 ⟨σ', s.h, w', s.nx⟩ σ' w' cs _ h2.sr h2.nx (.refl _ _ _ _) hvs (.pan v u false hv)).mono ?_)
        rintro e u2 w2 ⟨⟨r, rfl⟩, h', k', σ2, g1, g2, g3, g4, a2, g5, g6⟩
        cases g1 with
        | pan _ v2 _ g9 =>
        obtain ⟨cv, g7, g8⟩ := res g2 g3 g4 g5
        exact ⟨cv, g7, _, _, _, _, .ret a2 cv g8, g2, g3, h3.trans g4.vr g4.nx g4.σ, g6⟩
end Go.Proofs.YtjidgdfdeckofaaDoor.AE
