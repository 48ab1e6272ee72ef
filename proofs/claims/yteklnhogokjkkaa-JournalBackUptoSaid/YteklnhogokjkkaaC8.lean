/- A region that draws its order, out of which a call panics. No program in sight. -/
import Derived.Test.YteklnhogokjkkaaC7
namespace Go.Proofs.Yteklnhogokjkkaa.AE
open Go Go.RowKit
set_option linter.unusedVariables false
set_option linter.unusedSimpArgs false
variable {P : Program}
/-- The rule: what is done ahead of the panic only computes. -/
theorem aWp_drawPan {nt : Nat} {Q : AX → St → Prop} {ops : List Oper} {id : Nat} {tm : Nat → AV} {h : AHeap} {k : Nat} {df : List ADef} {acs : List Ac} {p : Nat} {pdst : Option Nat} {cl : Call} {pty : TypeId} {ppos : String} {pafter : Array Edge} {f : FuncId} {args : List AV}
    (hm : P.follows .mixedOrders = true) (hok : drawOk ops = true) (hdst : ops.all (fun o => dstOk nt o.dst) = true) (hp : ops[p]? = some ⟨pdst, .call cl, pty, ppos, pafter, none⟩) (hlen : acs.length = ops.length)
    (hact : ∀ (i : Nat) o a, i ≠ p → ((preds ops).getD i []).contains p = false → ops[i]? = some o → acs[i]? = some a → guardA ops.toArray (tmAt (fun j => decide (j < i)) 0 ops acs tm) o.guard = some true ∧ aop P o.op (tmAt (fun j => decide (j < i)) 0 ops acs tm) h (k + i) = some (a.v, h, k + i))
    (hcw : calleeW (tmAt (fun j => decide (j < p)) 0 ops acs tm) cl = some (f, args)) (hcb : callable P f = true)
    (hcalls : ∀ tm1 : Nat → AV, (∀ t, (∀ o ∈ ops, o.dst ≠ some t) → tm1 t = tm t) → ∀ nx, k + ops.length ≤ nx → aCalls P f args h nx (fun e h' k' => ∃ v, e = .pan v ∧ Q (.pan v) ⟨tm1, h', k', df⟩)) : aWp P nt (.region id ops.toArray true) Q ⟨tm, h, k, df⟩ := by

  simp only [drawOk, Bool.and_eq_true] at hok
  obtain ⟨⟨hedge, hslot⟩, _⟩ := hok
  have slotOrd : ∀ i j o o' d, ops[i]? = some o → ops[j]? = some o' → i ≠ j → o'.dst = some d → d ∈ slots ops.toArray o → ordB (preds ops) i j = true := fun i j o o' d hi hj hne hd hmem => by
    unfold slotsOk at hslot
    have h1 := List.all_eq_true.1 hslot (o, i) (List.mem_zipIdx_iff_getElem?.2 hi)
    have h2 := List.all_eq_true.1 h1 (o', j) (List.mem_zipIdx_iff_getElem?.2 hj)
    have hc : (slots ops.toArray o).contains d = true := by simpa using hmem
    simp only [hd, hc, Bool.or_eq_true, beq_iff_eq, Bool.not_true, Bool.false_or] at h2
    rcases h2 with h2 | h2
    · exact absurd h2 hne
    · exact h2
  intro B w0 O σ act w hr hk
  refine wp_region_any hm ?_
  have key : ∀ (fuel : Nat) (listed : Array Bool) (S : Nat → Bool) (act : Act) (w : World) (σ : Sig) (nx : Nat), listed.size = ops.length → (∀ j, j < ops.length → listed.getD j false = S j) → (∀ j, ops.length ≤ j → S j = false) → Closed ops S → S p = false → (∀ j, ((preds ops).getD j []).contains p = true → S j = false) →
      ((List.range ops.length).filter fun j => !S j).length ≤ fuel → Rel B w0 nt σ ⟨tmAt S 0 ops acs tm, h, nx, df⟩ act w → Keep B O σ (h) w nx → k + ops.length ≤ nx → (∀ j, j < ops.length → S j = false → σ (k + j) = none) →
      wpAny P .any ops.toArray (post nt B w0 O Q) fuel listed act w := by
    have least : ∀ (listed : Array Bool) (S : Nat → Bool), listed.size = ops.length → (∀ j, j < ops.length → listed.getD j false = S j) → Region.ready .any ops.toArray listed = [] → ∀ j, j < ops.length → S j = true := fun listed S hsz hl hready => by
      intro j
      induction j using Nat.strongRecOn with
      | _ j ih =>
        intro hj
        cases hS : S j with
        | true => rfl
        | false =>
          exfalso
          have hmem : j ∈ Region.ready .any ops.toArray listed := by
            rw [mem_ready]
            have h1 := hl j hj
            refine ⟨?_, ops[j], by simp [hj], fun e he hb => ?_⟩
            · simp only [Array.getD_eq_getD_getElem?] at h1 ⊢
              have : j < listed.size := by omega
              rw [Array.getElem?_eq_getElem this] at h1 ⊢
              simp only [Option.getD_some] at h1 ⊢
              rw [h1, hS]
            · have hlt : e.on < j := by
                have : ∀ (os : List Oper) (q : Nat), edgesOk q os = true → ∀ (i : Nat) o, os[i]? = some o → ∀ e ∈ o.after, Region.binds .any e = true → e.on < q + i := by
                  intro os
                  induction os with
                  | nil => intro q _ i o ho; simp at ho
                  | cons x os ihx =>
                    intro q hq i o ho e he hb
                    simp only [edgesOk, Bool.and_eq_true] at hq
                    cases i with
                    | zero =>
                      simp at ho
                      subst ho
                      have := List.all_eq_true.1 hq.1 e (by simpa using he)
                      simp only [hb, Bool.not_true, Bool.false_or, decide_eq_true_eq] at this
                      omega
                    | succ i =>
                      have := ihx (q + 1) hq.2 i o (by simpa using ho) e he hb
                      omega
                have := this ops 0 hedge j ops[j] (List.getElem?_eq_getElem hj) e he hb
                omega
              rw [hl e.on (by omega)]
              exact ih e.on hlt (by omega)
          rw [hready] at hmem
          cases hmem
    intro fuel
    induction fuel with
    | zero =>
      intro listed S act w σ nx hsz hl hge hc hsp hsd hcnt hr hk hnx hfree
      have hall : ∀ j, j < ops.length → S j = true := fun j hj => by
        cases hS : S j with
        | true => rfl
        | false =>
          exfalso
          have : j ∈ (List.range ops.length).filter fun j => !S j := by simp [hj, hS]
          have := List.length_pos_of_mem this
          omega
      exact absurd (hall p (List.getElem?_eq_some_iff.1 hp).1) (by rw [hsp]; decide)
    | succ fuel ih =>
      intro listed S act w σ nx hsz hl hge hc hsp hsd hcnt hr hk hnx hfree
      refine ⟨fun hready => absurd (least listed S hsz hl hready p (List.getElem?_eq_some_iff.1 hp).1) (by rw [hsp]; decide), fun i hi => ?_⟩
      obtain ⟨h1, o, ho, hedges⟩ := mem_ready.1 hi
      have ho' : ops[i]? = some o := by simpa using ho
      have hlt : i < ops.length := (List.getElem?_eq_some_iff.1 ho').1
      have hSi : S i = false := by
        have h2 := hl i hlt
        simp only [Array.getD_eq_getD_getElem?] at h1 h2
        have : i < listed.size := by omega
        rw [Array.getElem?_eq_getElem this] at h1 h2
        simp only [Option.getD_some] at h1 h2
        rw [h1] at h2
        exact h2.symm
      have hsome : ∀ j, listed.getD j false = true → S j = true := fun j hj => by
        by_cases hjl : j < ops.length
        · rw [← hl j hjl]; exact hj
        · rw [Array.getD_eq_getD_getElem?, Array.getElem?_eq_none (by omega)] at hj
          cases hj
      have hedges' : ∀ e ∈ o.after, Region.binds .any e = true → S e.on = true := fun e he hb => hsome _ (hedges e he hb)
      obtain ⟨a, haa⟩ : ∃ a, acs[i]? = some a := ⟨acs[i]'(by omega), List.getElem?_eq_getElem _⟩
      have before : ∀ j, j ∈ (preds ops).getD i [] → S j = true := fun j hj => preds_sound hc hedge ho' hedges' hj
      have behind : ∀ j o'', ops[j]? = some o'' → i ∈ (preds ops).getD j [] → S j = false := fun j o'' hj hmem => by
        cases hS : S j with
        | false => rfl
        | true =>
          have := preds_sound hc hedge hj (hc j o'' hS hj) hmem
          rw [hSi] at this
          cases this
      have ord : ∀ j o'', ops[j]? = some o'' → i ≠ j → ordB (preds ops) i j = true → S j = decide (j < i) := fun j o'' hj hne hord => by
        unfold ordB at hord
        split at hord
        · rename_i hji
          rw [before j (by simpa using hord)]
          simp [hji]
        · rename_i hji
          rw [behind j o'' hj (by simpa using hord)]
          simp [hji]
      -- what it looks at is what the text's order gives
      have hlook : ∀ t ∈ slots ops.toArray o, tmAt S 0 ops acs tm t = tmAt (fun j => decide (j < i)) 0 ops acs tm t := fun t ht => tmAt_congr (fun j o'' hj hd => by
        rw [Nat.zero_add]
        by_cases hne : i = j
        · subst hne
          rw [hSi]
          simp
        · exact ord j o'' hj hne (slotOrd i j o o'' t ho' hj hne hd ht)) rfl
      obtain ⟨hev, hgd⟩ := slots_eval hlook
      have hpi : ((preds ops).getD i []).contains p = false := by
        cases hc2 : ((preds ops).getD i []).contains p with
        | false => rfl
        | true => exact absurd (before p (by simpa using hc2)) (by rw [hsp]; decide)
      by_cases hip : i = p
      · subst hip
        rw [hp] at ho'
        cases ho'
        unfold wpOp
        rw [ho]
        simp only
        have hw := guardA_ok hr.tr (o := ⟨pdst, .call cl, pty, ppos, pafter, none⟩) (ops := ops.toArray) (b := true) rfl
        rw [if_pos (by rw [hw])]
        left
        have hca2 : calleeW (tmAt S 0 ops acs tm) cl = some (f, args) := by
          rw [calleeW_congr (tm' := tmAt (fun j => decide (j < i)) 0 ops acs tm) (fun x hx => hev x hx)]
          exact hcw
        unfold calleeW at hca2
        obtain ⟨⟨f', args'⟩, e1, e2⟩ := Option.map_eq_some_iff.1 hca2
        simp only [Prod.mk.injEq] at e2
        obtain ⟨rfl, rfl⟩ := e2
        obtain ⟨vs, e3, e4⟩ := calleeA_ok (P := P) (dst := pdst) (ty := pty) (pos := ppos) (after := pafter) (guard := none) hr.tr e1 hcb
        unfold Oper.wp
        rw [e3]
        have hother : ∀ t, (∀ o ∈ ops, o.dst ≠ some t) → tmAt S 0 ops acs tm t = tm t := fun t ht => by
          rw [tmAt_congr (S := S) (S' := fun _ => false) (t := t) (i := 0) (os := ops) («as» := acs) (tm := tm) (tm' := tm) (fun j o'' hj hd => absurd hd (ht o'' (List.mem_of_getElem? hj))) rfl]
          rw [tmAt_false _ _ _ _ _ (fun _ _ => rfl)]
        refine (hcalls (tmAt S 0 ops acs tm) hother nx hnx B w0 ⟨σ, h, w, nx⟩ σ w vs hr.sr hr.nx (.refl _ _ _ _) e4.weak).mono ?_
        rintro e w' ⟨ae, h'', nx', σ', c1, c2, c3, c4, v, rfl, hQ⟩
        cases c1 with
        | pan _ u hu => exact ⟨.pan v, _, σ', .pan v u hu, ⟨c2, fun t => c4.vr _ _ (hr.tr t), hr.nt, c3, hr.df.mono c4.vr⟩, hk.trans c4.vr c4.nx c4.σ, hQ⟩
      have hstep : tmAt (setS S i) 0 ops acs tm = putA (tmAt S 0 ops acs tm) o.dst a.v := by
        have := tmAt_step (S := S) (i0 := 0) (os := ops) («as» := acs) (tm := tm) ho' haa (by rw [Nat.zero_add]; exact hSi) (fun j o'' hij hj ⟨d, hd1, hd2⟩ => by
          rw [Nat.zero_add, ord j o'' hj (by omega) (slotOrd i j o o'' d ho' hj (by omega) hd2 (by unfold slots; simp [hd1]))]
          simp
          omega)
        rwa [Nat.zero_add] at this
      have hdo : dstOk nt o.dst = true := List.all_eq_true.1 hdst o (List.mem_of_getElem? ho')
      -- what follows
      have next : ∀ (σ' : Sig) (act' : Act) (w' : World) (nx' : Nat), Rel B w0 nt σ' ⟨putA (tmAt S 0 ops acs tm) o.dst a.v, h, nx', df⟩ act' w' → Keep B O σ' (h) w' nx' → nx ≤ nx' → (∀ j, j < ops.length → S j = false → j ≠ i → σ' (k + j) = none) →
          wpAny P .any ops.toArray (post nt B w0 O Q) fuel (listed.setIfInBounds i true) act' w' := fun σ' act' w' nx' hr' hk' hnn hfree' => by
        refine ih (listed.setIfInBounds i true) (setS S i) act' w' σ' nx' (by simp [hsz]) (fun j hj => ?_) (fun j hj => ?_) (fun j o'' hj ho'' e he hb => ?_) (by simp [setS, hsp]; exact fun e => hip e.symm) (fun j hj => by simp [setS, hsd j hj]; intro e; subst e; rw [hpi] at hj; cases hj) ?_ (by rw [hstep]; exact hr') hk' (by omega) (fun j hj hjs => ?_)
        · by_cases hji : j = i
          · subst hji
            have : j < listed.size := by omega
            simp [setS, Array.getD_eq_getD_getElem?, this]
          · have : (listed.setIfInBounds i true).getD j false = listed.getD j false := by
              simp only [Array.getD_eq_getD_getElem?]
              rw [Array.getElem?_setIfInBounds_ne (by omega)]
            rw [this, hl j hj]
            simp [setS, hji]
        · have h3 := hge j hj
          simp [setS, h3]
          omega
        · simp only [setS, Bool.or_eq_true, decide_eq_true_eq] at hj ⊢
          rcases hj with rfl | hj
          · rw [ho'] at ho''
            cases ho''
            exact .inr (hedges' e he hb)
          · exact .inr (hc j o'' hj ho'' e he hb)
        · have hsub : ((List.range ops.length).filter fun j => !setS S i j).length < ((List.range ops.length).filter fun j => !S j).length := by
            have e1 : ((List.range ops.length).filter fun j => !setS S i j) = ((List.range ops.length).filter fun j => !S j).filter fun j => !decide (j = i) := by
              rw [List.filter_filter]
              congr 1
              funext j
              simp [setS]
            rw [e1]
            refine Nat.lt_of_le_of_ne (List.length_filter_le _ _) fun heq => ?_
            have hmi : i ∈ (List.range ops.length).filter fun j => !S j := by simp [hlt, hSi]
            have := List.length_filter_eq_length_iff.1 heq i hmi
            simp at this
          omega
        · simp only [setS, Bool.or_eq_false_iff, decide_eq_false_iff_not] at hjs
          exact hfree' j hj hjs.2 hjs.1
      -- the operation itself
      unfold wpOp
      rw [ho]
      simp only
      have hOnx : O.nx ≤ k := by
        have := ‹Keep B O _ h _ k›.nx
        exact this
      obtain ⟨hg, ha1⟩ := hact i o a hip hpi ho' haa
      have hw := guardA_ok hr.tr (o := o) (ops := ops.toArray) (b := true) (by rw [hgd]; exact hg)
      rw [if_pos (by rw [hw])]
      left
      rw [← aop_congr hev] at ha1
      obtain ⟨cv, w', g1, σ', g2, g3, g4, g5⟩ := aop_ok hr.sr hr.tr (fun n h1 h2 => by
        obtain rfl : n = k + i := by omega
        exact hfree i hlt hSi) ha1
      have hnx' : ∀ n, nx ≤ n → σ' n = none := fun n hn' => by rw [g3 n (by omega)]; exact hr.nx n hn'
      have hr' := hr.put g2 g4 hnx' o.dst hdo g5
      have hk' : Keep B O σ' h w' nx := ⟨fun x v q => g4 _ _ (hk.vr _ _ q), hk.nx, fun n hn' => (g3 n (.inl (by omega))).trans (hk.σ n hn')⟩
      have := next σ' _ w' nx hr' hk' (Nat.le_refl _) (fun j hj hjs hne => by rw [g3 (k + j) (by omega)]; exact hfree j hj hjs)
      unfold Oper.wp
      rcases g1 with g1 | ⟨g1, rfl⟩
      · rw [g1]; exact this
      · rw [g1]; exact this
  -- the begin
  have hdw : ({ w with drawn := w.drawn + 1 } : World) = w.drew := rfl
  obtain ⟨d1, d2⟩ := hr.sr.drew (w.drawn + 1)
  have hS0 : tmAt (fun _ => false) 0 ops acs tm = tm := tmAt_false _ _ _ _ _ fun _ _ => rfl
  have := key ops.length (Array.replicate ops.length false) (fun _ => false) act { w with drawn := w.drawn + 1 } σ (k + ops.length) (by simp) (fun j hj => by simp [Array.getD_eq_getD_getElem?, hj]) (fun _ _ => rfl) (fun i o h => by cases h) rfl (fun _ _ => rfl) (Nat.le_trans (List.length_filter_le _ _) (by simp))
    (by rw [hS0]; exact ⟨d1, fun t => d2 _ _ (hr.tr t), hr.nt, fun n hn' => hr.nx n (by have : k + ops.length ≤ n := hn'; simp only; omega), hr.df.mono d2⟩)
    (by exact ⟨fun a v q => d2 _ _ (hk.vr _ _ q), by have := hk.nx; simp only at this; omega, hk.σ⟩) (Nat.le_refl _) (fun j hj _ => hr.nx (k + j) (by simp only; omega))
  simpa using this

/-! ### as a walk wants it -/
/-- What is done ahead of the panic, in the text's order; what comes behind the call is left out. -/
inductive PanA (P : Program) (ops : List Oper) (k : Nat) (h : AHeap) (p : Nat) (f : FuncId) (args : List AV) : Nat → List Oper → (Nat → AV) → List Ac → Prop
  | nil (i : Nat) (tm : Nat → AV) : PanA P ops k h p f args i [] tm []
  | act {i : Nat} {o : Oper} {rest : List Oper} {tm : Nat → AV} {acs : List Ac} (v : AV) (hne : i ≠ p) (hg : guardA ops.toArray tm o.guard = some true) (ha : aop P o.op tm h (k + i) = some (v, h, k + i)) (hr : PanA P ops k h p f args (i + 1) rest (putA tm o.dst v) acs) : PanA P ops k h p f args i (o :: rest) tm (⟨v, [], []⟩ :: acs)
  | skip {i : Nat} {o : Oper} {rest : List Oper} {tm : Nat → AV} {acs : List Ac} (hne : i ≠ p) (hs : ((preds ops).getD i []).contains p = true) (hr : PanA P ops k h p f args (i + 1) rest (putA tm o.dst (.tup [])) acs) : PanA P ops k h p f args i (o :: rest) tm (⟨.tup [], [], []⟩ :: acs)
  | call {i : Nat} {o : Oper} {cl : Call} {rest : List Oper} {tm : Nat → AV} {acs : List Ac} (hi : i = p) (ho : o.op = .call cl) (hc : calleeW tm cl = some (f, args)) (hr : PanA P ops k h p f args (i + 1) rest (putA tm o.dst (.tup [])) acs) : PanA P ops k h p f args i (o :: rest) tm (⟨.tup [], [], []⟩ :: acs)
theorem panA_get {ops : List Oper} {k p : Nat} {h : AHeap} {f : FuncId} {args : List AV} : ∀ {i0 : Nat} {os : List Oper} {tm : Nat → AV} {acs : List Ac}, PanA P ops k h p f args i0 os tm acs →
    acs.length = os.length ∧
    (∀ (i : Nat) o a, i0 + i ≠ p → ((preds ops).getD (i0 + i) []).contains p = false → os[i]? = some o → acs[i]? = some a → guardA ops.toArray (tmAt (fun j => decide (j < i0 + i)) i0 os acs tm) o.guard = some true ∧ aop P o.op (tmAt (fun j => decide (j < i0 + i)) i0 os acs tm) h (k + (i0 + i)) = some (a.v, h, k + (i0 + i))) ∧
    (∀ (i : Nat) o cl, i0 + i = p → os[i]? = some o → o.op = .call cl → calleeW (tmAt (fun j => decide (j < i0 + i)) i0 os acs tm) cl = some (f, args)) := by
  intro i0 os tm acs ha
  have base : ∀ {i : Nat} {os : List Oper} {acs : List Ac} {tm : Nat → AV}, tmAt (fun j => decide (j < i + 0)) i os acs tm = tm := fun {i os acs tm} => tmAt_false _ _ _ _ _ fun j hj => by simp; omega
  have step : ∀ {i j : Nat} {o : Oper} {os : List Oper} {a : Ac} {acs : List Ac} {tm : Nat → AV}, tmAt (fun q => decide (q < i + (j + 1))) i (o :: os) (a :: acs) tm = tmAt (fun q => decide (q < i + 1 + j)) (i + 1) os acs (putA tm o.dst a.v) := fun {i j o os a acs tm} => by
    rw [tmAt, if_pos (by simp), show i + (j + 1) = i + 1 + j by omega]
  induction ha with
  | nil i tm => exact ⟨rfl, fun i o a _ _ ho => by simp at ho, fun i o cl _ ho => by simp at ho⟩
  | @act i o rest tm acs v hne hg ha hr ih =>
    obtain ⟨q1, q2, q3⟩ := ih
    refine ⟨by simp [q1], fun j o' a' h1 h2 ho haa => ?_, fun j o' cl h1 ho hop => ?_⟩
    · cases j with
      | zero =>
        simp at ho haa
        subst ho haa
        rw [base, Nat.add_zero]
        exact ⟨hg, ha⟩
      | succ j =>
        have := q2 j o' a' (by omega) (by rw [show i + 1 + j = i + (j + 1) by omega]; exact h2) (by simpa using ho) (by simpa using haa)
        rw [step, show i + (j + 1) = i + 1 + j by omega]
        exact this
    · cases j with
      | zero => exact absurd h1 (by omega)
      | succ j =>
        rw [step]
        exact q3 j o' cl (by omega) (by simpa using ho) hop
  | @skip i o rest tm acs hne hs hr ih =>
    obtain ⟨q1, q2, q3⟩ := ih
    refine ⟨by simp [q1], fun j o' a' h1 h2 ho haa => ?_, fun j o' cl h1 ho hop => ?_⟩
    · cases j with
      | zero => rw [Nat.add_zero, hs] at h2; cases h2
      | succ j =>
        have := q2 j o' a' (by omega) (by rw [show i + 1 + j = i + (j + 1) by omega]; exact h2) (by simpa using ho) (by simpa using haa)
        rw [step, show i + (j + 1) = i + 1 + j by omega]
        exact this
    · cases j with
      | zero => exact absurd h1 (by omega)
      | succ j =>
        rw [step]
        exact q3 j o' cl (by omega) (by simpa using ho) hop
  | @call i o cl rest tm acs hi ho0 hc hr ih =>
    obtain ⟨q1, q2, q3⟩ := ih
    refine ⟨by simp [q1], fun j o' a' h1 h2 ho haa => ?_, fun j o' cl' h1 ho hop => ?_⟩
    · cases j with
      | zero => exact absurd hi (by omega)
      | succ j =>
        have := q2 j o' a' (by omega) (by rw [show i + 1 + j = i + (j + 1) by omega]; exact h2) (by simpa using ho) (by simpa using haa)
        rw [step, show i + (j + 1) = i + 1 + j by omega]
        exact this
    · cases j with
      | zero =>
        simp at ho
        subst ho
        rw [ho0] at hop
        cases hop
        rw [base]
        exact hc
      | succ j =>
        rw [step]
        exact q3 j o' cl' (by omega) (by simpa using ho) hop
section
variable {ops : List Oper} {k p i : Nat} {h : AHeap} {f : FuncId} {args : List AV} {rest : List Oper} {tm : Nat → AV} {d : Nat} {op : Op} {ty : TypeId} {pos : String} {after : Array Edge} {guard : Option (Nat × Bool)} {v : AV} {o : Oper} {c : Call}
def Pan (P : Program) (ops : List Oper) (k : Nat) (h : AHeap) (p : Nat) (f : FuncId) (args : List AV) (i : Nat) (rest : List Oper) (tm : Nat → AV) : Prop := ∃ acs, PanA P ops k h p f args i rest tm acs
theorem pe_ : Pan P ops k h p f args i [] tm := ⟨_, .nil i tm⟩
theorem pq_ (hr : Pan P ops k h p f args (i + 1) rest (upd tm d v)) (hne : i ≠ p := by decide) (hg : guardA ops.toArray tm guard = some true := by first | rfl | (simp (disch := first | rfl | decide | omega | assumption | (simp only [LL]; omega)) only [WS, NB, WY, FX.out]; first | done | rfl)) (ha : aop P op tm h (k + i) = some (v, h, k + i) := by first | rfl | (simp (disch := first | rfl | decide | omega | assumption | (simp only [LL]; omega)) only [WS, NB, WY, FX.out]; first | done | rfl)) : Pan P ops k h p f args i (⟨some d, op, ty, pos, after, guard⟩ :: rest) tm := by
  obtain ⟨acs, hr⟩ := hr
  exact ⟨_, .act v hne hg ha hr⟩
theorem ps_ (hr : Pan P ops k h p f args (i + 1) rest (putA tm o.dst (.tup []))) (hne : i ≠ p := by decide) (hs : ((preds ops).getD i []).contains p = true := by rfl) : Pan P ops k h p f args i (o :: rest) tm := by
  obtain ⟨acs, hr⟩ := hr
  exact ⟨_, .skip hne hs hr⟩
theorem pc_ (hr : Pan P ops k h p f args (i + 1) rest (putA tm o.dst (.tup []))) (hi : i = p := by rfl) (ho : o.op = .call c := by rfl) (hc : calleeW tm c = some (f, args) := by first | rfl | (simp (disch := first | rfl | decide | omega | assumption | (simp only [LL]; omega)) only [WS, NB, WY, FX.out]; first | done | rfl)) : Pan P ops k h p f args i (o :: rest) tm := by
  obtain ⟨acs, hr⟩ := hr
  exact ⟨_, .call hi ho hc hr⟩
/-- A call panics, whatever memory is. -/
def aPan (P : Program) (f : FuncId) (args : List AV) (v : AV) : Prop := ∀ (h : AHeap) (nx : Nat), aCalls P f args h nx (fun e h' k' => e = .pan v ∧ h' = h ∧ nx ≤ k')
theorem W_drawPanR {nt : Nat} {Q : AX → St → Prop} {id : Nat} {df : List ADef} {pdst : Option Nat} (p : Nat) (hm : P.follows .mixedOrders = true) (hok : drawOk ops = true) (hdst : ops.all (fun o => dstOk nt o.dst) = true) (hp : ops[p]? = some ⟨pdst, .call c, ty, pos, after, none⟩)
    (h1 : Pan P ops k h p f args 0 ops tm) (hcb : callable P f = true)
    (hcalls : ∀ tm1 : Nat → AV, (∀ t, (ops.all fun o => o.dst != some t) = true → tm1 t = tm t) → ∀ nx, k + ops.length ≤ nx → aCalls P f args h nx (fun e h' k' => ∃ v, e = .pan v ∧ Q (.pan v) ⟨tm1, h', k', df⟩)) : aWp P nt (.region id ops.toArray true) Q ⟨tm, h, k, df⟩ := by
  obtain ⟨acs, h1⟩ := h1
  obtain ⟨q1, q2, q3⟩ := panA_get h1
  simp only [Nat.zero_add] at q2 q3
  exact aWp_drawPan hm hok hdst hp q1 q2 (q3 p _ _ rfl hp rfl) hcb fun tm1 ht nx hnx => hcalls tm1 (fun t hq => ht t fun o ho => by
    have := List.all_eq_true.1 hq o ho
    simpa using this) nx hnx
theorem W_drawPan {nt : Nat} {Q : AX → St → Prop} {id : Nat} {df : List ADef} {pdst : Option Nat} (p : Nat) (hf : aPan P f args v) (hm : P.follows .mixedOrders = true) (hok : drawOk ops = true) (hdst : ops.all (fun o => dstOk nt o.dst) = true) (hp : ops[p]? = some ⟨pdst, .call c, ty, pos, after, none⟩)
    (h1 : Pan P ops k h p f args 0 ops tm) (hcb : callable P f = true)
    (hq : ∀ tm1 : Nat → AV, (∀ t, (ops.all fun o => o.dst != some t) = true → tm1 t = tm t) → ∀ k', k + ops.length ≤ k' → Q (.pan v) ⟨tm1, h, k', df⟩) : aWp P nt (.region id ops.toArray true) Q ⟨tm, h, k, df⟩ :=
  W_drawPanR p hm hok hdst hp h1 hcb fun tm1 ht nx hnx => aCalls_mono (hf h nx) fun e h' k' ⟨e1, e2, e3⟩ => ⟨v, e1, by subst e2; exact hq tm1 ht k' (by omega)⟩
end
section
variable {nt : Nat} {Q : AX → St → Prop} {ops : Array Oper} {rest : List Oper} {tm : Nat → AV} {h : AHeap} {k : Nat} {df : List ADef} {ty : TypeId} {pos : String} {after : Array Edge} {d : Nat} {v : AV} {guard : Option (Nat × Bool)} {c : Call} {f : FuncId} {args : List AV}
/-- A call that panics. -/
theorem p_ (hf : aPan P f args v) (hr : ∀ k', k ≤ k' → Q (.pan v) ⟨tm, h, k', df⟩) (h0 : c.callee = .value (.func f) := by rfl) (hg : guardA ops tm guard = some true := by first | rfl | (simp (disch := first | rfl | decide | omega | assumption | (simp only [LL]; omega)) only [WS, NB, WY, FX.out]; first | done | rfl)) (hd : decide (d < nt) = true := by rfl) (ha : calleeA tm c = some (f, args) := by first | rfl | (simp (disch := first | rfl | decide | omega | assumption | (simp only [LL]; omega)) only [WS, NB, WY, FX.out]; first | done | rfl)) (hc : callable P f = true := by simp only [WS]) :
    aOps P nt ops (⟨some d, .call c, ty, pos, after, guard⟩ :: rest) Q ⟨tm, h, k, df⟩ := aOps_call hg hd rfl ha hc (hf h k) (fun a h' k' ⟨e1, _⟩ => by cases e1) (fun a h' k' ⟨e1, e2, e3⟩ => by cases e1; subst e2; exact hr k' e3)
end
end Go.Proofs.Yteklnhogokjkkaa.AE
