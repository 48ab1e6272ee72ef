/- Regions whose order is drawn: the rule. No program in sight. -/
import Derived.Test.YtcnofpoffdjbpaaB7
namespace Go.Proofs.Ytcnofpoffdjbpaa.AE
open Go Go.RowKit
set_option linter.unusedVariables false
set_option linter.unusedSimpArgs false
variable {P : Program}
section
theorem aop_congr {op : Op} {tm tm' : Nat → AV} {g : AHeap} {k : Nat} (h : ∀ x ∈ op.operands, evA tm x = evA tm' x) : aop P op tm g k = aop P op tm' g k := by
  have one : ∀ x, op.operands = #[x] → evA tm x = evA tm' x := fun x e => h x (by rw [e]; simp)
  have two : ∀ x y, op.operands = #[x, y] → evA tm x = evA tm' x ∧ evA tm y = evA tm' y := fun x y e => ⟨h x (by rw [e]; simp), h y (by rw [e]; simp)⟩
  cases op with
  | move x => simp only [aop, one x rfl]
  | assign x => simp only [aop, one x rfl]
  | pick c a b =>
    have h1 := h c (by simp [Op.operands])
    have h2 := h a (by simp [Op.operands])
    have h3 := h b (by simp [Op.operands])
    simp only [aop, h1, h2, h3]
  | alloc t => rfl
  | box t x => simp only [aop, one x rfl]
  | build t ps =>
    have h1 : ∀ p ∈ ps.toList, evA tm p.2 = evA tm' p.2 := fun p hp => h p.2 (by simp only [Op.operands, List.mem_toArray, List.mem_map]; exact ⟨p, hp, rfl⟩)
    have h2 : (ps.toList.map fun p => (p.1, evA tm p.2)) = (ps.toList.map fun p => (p.1, evA tm' p.2)) := List.map_congr_left fun p hp => by rw [h1 p hp]
    have h3 : (ps.toList.all fun p => (evA tm p.2).okPart) = (ps.toList.all fun p => (evA tm' p.2).okPart) := by
      rw [Bool.eq_iff_iff, List.all_eq_true, List.all_eq_true]
      exact ⟨fun q p hp => by rw [← h1 p hp]; exact q p hp, fun q p hp => by rw [h1 p hp]; exact q p hp⟩
    simp only [aop, h2, h3]
  | buildSlice t n ps =>
    have h1 : ∀ p ∈ ps.toList, evA tm p.2 = evA tm' p.2 := fun p hp => h p.2 (by simp only [Op.operands, List.mem_toArray, List.mem_map]; exact ⟨p, hp, rfl⟩)
    have h2 : (ps.toList.map fun p => (p.1, evA tm p.2)) = (ps.toList.map fun p => (p.1, evA tm' p.2)) := List.map_congr_left fun p hp => by rw [h1 p hp]
    simp only [aop, h2]
  | load t a => simp only [aop, one a rfl]
  | store t a x => simp only [aop, (two a x rfl).1, (two a x rfl).2]
  | nilCheck x => simp only [aop, one x rfl]
  | binOp o t x y u => simp only [aop, (two x y rfl).1, (two x y rfl).2]
  | unOp o t x => simp only [aop, one x rfl]
  | convert s d x => simp only [aop, one x rfl]
  | makeInterface t x => simp only [aop, one x rfl]
  | makeFunc f as bs =>
    have h1 : as.toList.map (evA tm) = as.toList.map (evA tm') := List.map_congr_left fun x hx => h x (by simp only [Op.operands, Array.mem_append]; left; simpa using hx)
    have h2 : bs.toList.map (evA tm) = bs.toList.map (evA tm') := List.map_congr_left fun x hx => h x (by simp only [Op.operands, Array.mem_append]; right; simpa using hx)
    simp only [aop, h1, h2]
  | makeSlice t l c => simp only [aop, (two l c rfl).1, (two l c rfl).2]
  | slice t x lo hi mx =>
    have h0 := h x (by simp [Op.operands])
    have h1 : lo.map (evA tm) = lo.map (evA tm') := by
      cases lo with
      | none => rfl
      | some y => simp only [Option.map_some]; rw [h y (by simp [Op.operands])]
    have h2 : hi.map (evA tm) = hi.map (evA tm') := by
      cases hi with
      | none => rfl
      | some y => simp only [Option.map_some]; rw [h y (by simp [Op.operands])]
    have h3 : mx.map (evA tm) = mx.map (evA tm') := by
      cases mx with
      | none => rfl
      | some y => simp only [Option.map_some]; rw [h y (by simp [Op.operands])]
    simp only [aop, h0, h1, h2, h3]
  | fieldAddr t x f => simp only [aop, one x rfl]
  | field t x f => simp only [aop, one x rfl]
  | indexAddr t x i => simp only [aop, (two x i rfl).1, (two x i rfl).2]
  | index t x i => simp only [aop, (two x i rfl).1, (two x i rfl).2]
  | extract x i => simp only [aop, one x rfl]
  | call c =>
    obtain ⟨callee, args, ts⟩ := c
    cases callee with
    | builtin b =>
      have h1 : args.toList.map (evA tm) = args.toList.map (evA tm') := List.map_congr_left fun x hx => h x (by simp only [Op.operands, Call.operands, Array.mem_append]; right; simpa using hx)
      simp only [aop, h1]
    | _ => rfl
  | _ => rfl
theorem calleeW_congr {c : Call} {tm tm' : Nat → AV} (h : ∀ x ∈ c.operands, evA tm x = evA tm' x) : calleeW tm c = calleeW tm' c := by
  obtain ⟨callee, args, ts⟩ := c
  have h1 : args.toList.map (evA tm) = args.toList.map (evA tm') := List.map_congr_left fun x hx => h x (by simp only [Call.operands, Array.mem_append]; right; simpa using hx)
  unfold calleeW calleeA
  cases callee with
  | value f => simp only [h f (by simp [Call.operands]), h1]
  | _ => rfl
theorem guardA_congr {ops : Array Oper} {g : Option (Nat × Bool)} {tm tm' : Nat → AV} (h : ∀ j b d, g = some (j, b) → (ops[j]?).bind (·.dst) = some d → tm d = tm' d) : guardA ops tm g = guardA ops tm' g := by
  unfold guardA
  cases g with
  | none => rfl
  | some p =>
    obtain ⟨j, b⟩ := p
    simp only
    cases hd : (ops[j]?).bind (·.dst) with
    | none => rfl
    | some d => simp only [h j b d rfl hd]
theorem slots_eval {ops : Array Oper} {o : Oper} {tm tm' : Nat → AV} (h : ∀ t ∈ slots ops o, tm t = tm' t) : (∀ x ∈ o.op.operands, evA tm x = evA tm' x) ∧ guardA ops tm o.guard = guardA ops tm' o.guard := by
  refine ⟨fun x hx => ?_, guardA_congr fun j b d hg hd => h d ?_⟩
  · cases x with
    | tmp t =>
      refine h t ?_
      unfold slots
      simp only [List.mem_append, List.mem_filterMap]
      exact .inl (.inr ⟨.tmp t, by simpa using hx, rfl⟩)
    | const v => rfl
    | func f => rfl
    | global g => rfl
  · unfold slots
    rw [hg]
    simp only [List.mem_append, hd]
    right
    simp
theorem tmAt_false : ∀ (q : Nat) (os : List Oper) (as : List Ac) (tm : Nat → AV) (S : Nat → Bool), (∀ j, q ≤ j → S j = false) → tmAt S q os as tm = tm
  | q, [], as, tm, S, _ => by simp [tmAt]
  | q, o :: os, [], tm, S, _ => by simp [tmAt]
  | q, o :: os, a :: as, tm, S, h => by
    rw [tmAt, if_neg (by rw [h q (Nat.le_refl _)]; decide)]
    exact tmAt_false (q + 1) os as tm S fun j hj => h j (by omega)
theorem hAt_false : ∀ (q : Nat) (as : List Ac) (h : AHeap) (S : Nat → Bool), (∀ j, q ≤ j → S j = false) → hAt S q as h = h
  | q, [], h, S, _ => by simp [hAt]
  | q, a :: as, h, S, hs => by
    rw [hAt, if_neg (by rw [hs q (Nat.le_refl _)]; decide)]
    exact hAt_false (q + 1) as h S fun j hj => hs j (by omega)
theorem acts_get {ops : Array Oper} {k : Nat} : ∀ {i0 : Nat} {os : List Oper} {tm : Nat → AV} {h : AHeap} {as : List Ac} {tm' : Nat → AV} {h' : AHeap}, Acts P ops k i0 os tm h as tm' h' →
    as.length = os.length ∧ tm' = tmAt (fun _ => true) i0 os as tm ∧ h' = hAt (fun _ => true) i0 as h ∧
    ∀ (i : Nat) o a, os[i]? = some o → as[i]? = some a → ActOk P ops o (tmAt (fun j => decide (j < i0 + i)) i0 os as tm) (hAt (fun j => decide (j < i0 + i)) i0 as h) (k + (i0 + i)) a := by
  intro i0 os tm h as tm' h' ha
  induction ha with
  | nil i tm h => exact ⟨rfl, rfl, rfl, fun i o a ho => by simp at ho⟩
  | @cons i o rest tm tm' h h' a as h1 h2 ih =>
    obtain ⟨q1, q2, q3, q4⟩ := ih
    refine ⟨by simp [q1], by rw [q2, tmAt]; simp, by rw [q3, hAt]; simp, fun j o' a' ho ha => ?_⟩
    cases j with
    | zero =>
      simp at ho ha
      subst ho ha
      rw [tmAt_false _ _ _ _ _ (fun j hj => by simp; omega), hAt_false _ _ _ _ (fun j hj => by simp; omega)]
      exact h1
    | succ j =>
      have := q4 j o' a' (by simpa using ho) (by simpa using ha)
      rw [tmAt, hAt]
      have e : (decide (i < i + (j + 1))) = true := by simp
      simp only [e, if_true]
      rwa [show i + 1 + j = i + (j + 1) by omega] at this
/-- THE RULE. -/
theorem aWp_draw {nt : Nat} {Q : AX → St → Prop} {ops : List Oper} {id : Nat} {tm tm' : Nat → AV} {h h' : AHeap} {k : Nat} {df : List ADef} {as : List Ac} (hm : P.follows .mixedOrders = true) (hok : drawOk ops = true) (hdst : ops.all (fun o => dstOk nt o.dst) = true)
    (ha : Acts P ops.toArray k 0 ops tm h as tm' h') (hn : namesOk ops as) (hq : ∀ k', k + ops.length ≤ k' → Q .norm ⟨tm', h', k', df⟩) : aWp P nt (.region id ops.toArray true) Q ⟨tm, h, k, df⟩ := by
  obtain ⟨hlen, htm', hh', hact⟩ := acts_get ha
  simp only [Nat.zero_add] at hact
  simp only [drawOk, Bool.and_eq_true] at hok
  obtain ⟨⟨hedge, hslot⟩, _⟩ := hok
  have slotOrd : ∀ i j o o' d, ops[i]? = some o → ops[j]? = some o' → i ≠ j → o'.dst = some d → d ∈ slots ops.toArray o → ordB (preds ops) i j = true := fun i j o o' d hi hj hne hd hmem => by
    unfold slotsOk at hslot
    have h1 := List.all_eq_true.1 hslot (o, i) (List.mem_zipIdx_iff_getElem?.2 hi)
    have h2 := List.all_eq_true.1 h1 (o', j) (List.mem_zipIdx_iff_getElem?.2 hj)
    have hc : (slots ops.toArray o).contains d = true := by simpa using hmem
    simp only [hd, hc, Bool.or_eq_true, beq_iff_eq, Bool.not_true, Bool.false_or] at h2
    rcases h2 with h2 | h2
    · exact absurd h2 hne
    · exact h2
  intro B w0 O σ act w hr hk
  refine wp_region_any hm ?_
  have key : ∀ (fuel : Nat) (listed : Array Bool) (S : Nat → Bool) (act : Act) (w : World) (σ : Sig) (nx : Nat), listed.size = ops.length → (∀ j, j < ops.length → listed.getD j false = S j) → (∀ j, ops.length ≤ j → S j = false) → Closed ops S →
      ((List.range ops.length).filter fun j => !S j).length ≤ fuel → Rel B w0 nt σ ⟨tmAt S 0 ops as tm, hAt S 0 as h, nx, df⟩ act w → Keep B O σ (hAt S 0 as h) w nx → k + ops.length ≤ nx → (∀ j, j < ops.length → S j = false → σ (k + j) = none) →
      wpAny P .any ops.toArray (post nt B w0 O Q) fuel listed act w := by
    have fin : ∀ (listed : Array Bool) (S : Nat → Bool) (act : Act) (w : World) (σ : Sig) (nx : Nat), listed.size = ops.length → (∀ j, j < ops.length → listed.getD j false = S j) → (∀ j, ops.length ≤ j → S j = false) → Rel B w0 nt σ ⟨tmAt S 0 ops as tm, hAt S 0 as h, nx, df⟩ act w → Keep B O σ (hAt S 0 as h) w nx → k + ops.length ≤ nx →
        (∀ j, j < ops.length → S j = true) → post nt B w0 O Q .normal act w := fun listed S act w σ nx hsz hl hge hr hk hnx hall => by
      have e1 : tmAt S 0 ops as tm = tm' := by
        rw [htm']
        funext t
        exact tmAt_congr (fun j o hj _ => by rw [Nat.zero_add]; exact hall j (List.getElem?_eq_some_iff.1 hj).1) rfl
      have e2 : hAt S 0 as h = h' := by
        rw [hh']
        funext m
        exact hAt_congr (fun j a hj _ => by rw [Nat.zero_add]; exact hall j (by rw [← hlen]; exact (List.getElem?_eq_some_iff.1 hj).1)) rfl
      rw [e1, e2] at hr
      rw [e2] at hk
      exact ⟨_, _, _, .norm, hr, hk, hq nx hnx⟩
    have least : ∀ (listed : Array Bool) (S : Nat → Bool), listed.size = ops.length → (∀ j, j < ops.length → listed.getD j false = S j) → Region.ready .any ops.toArray listed = [] → ∀ j, j < ops.length → S j = true := fun listed S hsz hl hready => by
      intro j
      induction j using Nat.strongRecOn with
      | _ j ih =>
        intro hj
        cases hS : S j with
        | true => rfl
        | false =>
          exfalso
          have hmem : j ∈ Region.ready .any ops.toArray listed := by
            rw [mem_ready]
            have h1 := hl j hj
            refine ⟨?_, ops[j], by simp [hj], fun e he hb => ?_⟩
            · simp only [Array.getD_eq_getD_getElem?] at h1 ⊢
              have : j < listed.size := by omega
              rw [Array.getElem?_eq_getElem this] at h1 ⊢
              simp only [Option.getD_some] at h1 ⊢
              rw [h1, hS]
            · have hlt : e.on < j := by
                have : ∀ (os : List Oper) (q : Nat), edgesOk q os = true → ∀ (i : Nat) o, os[i]? = some o → ∀ e ∈ o.after, Region.binds .any e = true → e.on < q + i := by
                  intro os
                  induction os with
                  | nil => intro q _ i o ho; simp at ho
                  | cons x os ihx =>
                    intro q hq i o ho e he hb
                    simp only [edgesOk, Bool.and_eq_true] at hq
                    cases i with
                    | zero =>
                      simp at ho
                      subst ho
                      have := List.all_eq_true.1 hq.1 e (by simpa using he)
                      simp only [hb, Bool.not_true, Bool.false_or, decide_eq_true_eq] at this
                      omega
                    | succ i =>
                      have := ihx (q + 1) hq.2 i o (by simpa using ho) e he hb
                      omega
                have := this ops 0 hedge j ops[j] (List.getElem?_eq_getElem hj) e he hb
                omega
              rw [hl e.on (by omega)]
              exact ih e.on hlt (by omega)
          rw [hready] at hmem
          cases hmem
    intro fuel
    induction fuel with
    | zero =>
      intro listed S act w σ nx hsz hl hge hc hcnt hr hk hnx hfree
      have hall : ∀ j, j < ops.length → S j = true := fun j hj => by
        cases hS : S j with
        | true => rfl
        | false =>
          exfalso
          have : j ∈ (List.range ops.length).filter fun j => !S j := by simp [hj, hS]
          have := List.length_pos_of_mem this
          omega
      refine ⟨?_, fin listed S act w σ nx hsz hl hge hr hk hnx hall⟩
      apply List.eq_nil_iff_forall_not_mem.2
      intro j hj
      obtain ⟨h1, o, ho, _⟩ := mem_ready.1 hj
      have hlt : j < ops.length := by simpa using (Array.getElem?_eq_some_iff.1 ho).1
      have h2 := hl j hlt
      rw [hall j hlt] at h2
      simp only [Array.getD_eq_getD_getElem?] at h1 h2
      have : j < listed.size := by omega
      rw [Array.getElem?_eq_getElem this] at h1 h2
      simp only [Option.getD_some] at h1 h2
      rw [h1] at h2
      cases h2
    | succ fuel ih =>
      intro listed S act w σ nx hsz hl hge hc hcnt hr hk hnx hfree
      refine ⟨fun hready => fin listed S act w σ nx hsz hl hge hr hk hnx (least listed S hsz hl hready), fun i hi => ?_⟩
      obtain ⟨h1, o, ho, hedges⟩ := mem_ready.1 hi
      have ho' : ops[i]? = some o := by simpa using ho
      have hlt : i < ops.length := (List.getElem?_eq_some_iff.1 ho').1
      have hSi : S i = false := by
        have h2 := hl i hlt
        simp only [Array.getD_eq_getD_getElem?] at h1 h2
        have : i < listed.size := by omega
        rw [Array.getElem?_eq_getElem this] at h1 h2
        simp only [Option.getD_some] at h1 h2
        rw [h1] at h2
        exact h2.symm
      have hsome : ∀ j, listed.getD j false = true → S j = true := fun j hj => by
        by_cases hjl : j < ops.length
        · rw [← hl j hjl]; exact hj
        · rw [Array.getD_eq_getD_getElem?, Array.getElem?_eq_none (by omega)] at hj
          cases hj
      have hedges' : ∀ e ∈ o.after, Region.binds .any e = true → S e.on = true := fun e he hb => hsome _ (hedges e he hb)
      obtain ⟨a, haa⟩ : ∃ a, as[i]? = some a := ⟨as[i]'(by omega), List.getElem?_eq_getElem _⟩
      have before : ∀ j, j ∈ (preds ops).getD i [] → S j = true := fun j hj => preds_sound hc hedge ho' hedges' hj
      have behind : ∀ j o'', ops[j]? = some o'' → i ∈ (preds ops).getD j [] → S j = false := fun j o'' hj hmem => by
        cases hS : S j with
        | false => rfl
        | true =>
          have := preds_sound hc hedge hj (hc j o'' hS hj) hmem
          rw [hSi] at this
          cases this
      have ord : ∀ j o'', ops[j]? = some o'' → i ≠ j → ordB (preds ops) i j = true → S j = decide (j < i) := fun j o'' hj hne hord => by
        unfold ordB at hord
        split at hord
        · rename_i hji
          rw [before j (by simpa using hord)]
          simp [hji]
        · rename_i hji
          rw [behind j o'' hj (by simpa using hord)]
          simp [hji]
      -- what it looks at is what the text's order gives
      have hlook : ∀ t ∈ slots ops.toArray o, tmAt S 0 ops as tm t = tmAt (fun j => decide (j < i)) 0 ops as tm t := fun t ht => tmAt_congr (fun j o'' hj hd => by
        rw [Nat.zero_add]
        by_cases hne : i = j
        · subst hne
          rw [hSi]
          simp
        · exact ord j o'' hj hne (slotOrd i j o o'' t ho' hj hne hd ht)) rfl
      obtain ⟨hev, hgd⟩ := slots_eval hlook
      have hmem : ∀ m, m ∈ a.rd ∨ m ∈ a.ws.map (·.1) → ∀ (j : Nat) b, as[j]? = some b → m ∈ b.ws.map (·.1) → i ≠ j → S j = decide (j < i) := fun m hm' j b hb hmb hne => by
        have hjl : j < ops.length := by rw [← hlen]; exact (List.getElem?_eq_some_iff.1 hb).1
        exact ord j _ (List.getElem?_eq_getElem hjl) hne (hn i j a b haa hb hne m hm' hmb)
      have hread : ∀ m ∈ a.rd, hAt S 0 as h m = hAt (fun j => decide (j < i)) 0 as h m := fun m hm' => hAt_congr (fun j b hj hmb => by
        rw [Nat.zero_add]
        by_cases hne : i = j
        · subst hne
          rw [hSi]
          simp
        · exact hmem m (.inl hm') j b hj hmb hne) rfl
      have hstep : tmAt (setS S i) 0 ops as tm = putA (tmAt S 0 ops as tm) o.dst a.v := by
        have := tmAt_step (S := S) (i0 := 0) (os := ops) (as := as) (tm := tm) ho' haa (by rw [Nat.zero_add]; exact hSi) (fun j o'' hij hj ⟨d, hd1, hd2⟩ => by
          rw [Nat.zero_add, ord j o'' hj (by omega) (slotOrd i j o o'' d ho' hj (by omega) hd2 (by unfold slots; simp [hd1]))]
          simp
          omega)
        rwa [Nat.zero_add] at this
      have hheap : hAt (setS S i) 0 as h = ovr (hAt S 0 as h) a.ws := by
        have := hAt_step (S := S) (i0 := 0) (as := as) (h := h) haa (by rw [Nat.zero_add]; exact hSi) (fun j b hij hj ⟨m, hm1, hm2⟩ => by
          rw [Nat.zero_add, hmem m (.inr hm1) j b hj hm2 (by omega)]
          simp
          omega)
        rwa [Nat.zero_add] at this
      have hdo : dstOk nt o.dst = true := List.all_eq_true.1 hdst o (List.mem_of_getElem? ho')
      -- what follows
      have next : ∀ (σ' : Sig) (act' : Act) (w' : World) (nx' : Nat), Rel B w0 nt σ' ⟨putA (tmAt S 0 ops as tm) o.dst a.v, ovr (hAt S 0 as h) a.ws, nx', df⟩ act' w' → Keep B O σ' (ovr (hAt S 0 as h) a.ws) w' nx' → nx ≤ nx' → (∀ j, j < ops.length → S j = false → j ≠ i → σ' (k + j) = none) →
          wpAny P .any ops.toArray (post nt B w0 O Q) fuel (listed.setIfInBounds i true) act' w' := fun σ' act' w' nx' hr' hk' hnn hfree' => by
        refine ih (listed.setIfInBounds i true) (setS S i) act' w' σ' nx' (by simp [hsz]) (fun j hj => ?_) (fun j hj => ?_) (fun j o'' hj ho'' e he hb => ?_) ?_ (by rw [hstep, hheap]; exact hr') (by rw [hheap]; exact hk') (by omega) (fun j hj hjs => ?_)
        · by_cases hji : j = i
          · subst hji
            have : j < listed.size := by omega
            simp [setS, Array.getD_eq_getD_getElem?, this]
          · have : (listed.setIfInBounds i true).getD j false = listed.getD j false := by
              simp only [Array.getD_eq_getD_getElem?]
              rw [Array.getElem?_setIfInBounds_ne (by omega)]
            rw [this, hl j hj]
            simp [setS, hji]
        · have h3 := hge j hj
          simp [setS, h3]
          omega
        · simp only [setS, Bool.or_eq_true, decide_eq_true_eq] at hj ⊢
          rcases hj with rfl | hj
          · rw [ho'] at ho''
            cases ho''
            exact .inr (hedges' e he hb)
          · exact .inr (hc j o'' hj ho'' e he hb)
        · have hsub : ((List.range ops.length).filter fun j => !setS S i j).length < ((List.range ops.length).filter fun j => !S j).length := by
            have e1 : ((List.range ops.length).filter fun j => !setS S i j) = ((List.range ops.length).filter fun j => !S j).filter fun j => !decide (j = i) := by
              rw [List.filter_filter]
              congr 1
              funext j
              simp [setS]
            rw [e1]
            refine Nat.lt_of_le_of_ne (List.length_filter_le _ _) fun heq => ?_
            have hmi : i ∈ (List.range ops.length).filter fun j => !S j := by simp [hlt, hSi]
            have := List.length_filter_eq_length_iff.1 heq i hmi
            simp at this
          omega
        · simp only [setS, Bool.or_eq_false_iff, decide_eq_false_iff_not] at hjs
          exact hfree' j hj hjs.2 hjs.1
      -- the operation itself
      unfold wpOp
      rw [ho]
      simp only
      have hOnx : O.nx ≤ k := by
        have := ‹Keep B O _ h _ k›.nx
        exact this
      have hact' := hact i o a ho' haa
      rcases hact' with ⟨hg, hv, hws⟩ | ⟨hg, hdo2⟩
      · have hw := guardA_ok hr.tr (o := o) (ops := ops.toArray) (b := false) (by rw [hgd]; exact hg)
        rw [if_neg (by rw [hw]; decide)]
        refine next σ _ w nx ?_ ?_ (Nat.le_refl _) (fun j hj hjs hne => hfree j hj hjs)
        · rw [hv, hws]
          exact hr.put hr.sr (fun _ _ q => q) hr.nx o.dst hdo (VR.tup_iff.2 ⟨[], rfl, .nil⟩)
        · rw [hws]
          exact hk
      · have hw := guardA_ok hr.tr (o := o) (ops := ops.toArray) (b := true) (by rw [hgd]; exact hg)
        rw [if_pos (by rw [hw])]
        left
        rcases hdo2 with hop | ⟨cl, f, args, hcl, hca, hcb, hcalls⟩
        · obtain ⟨k', ha1, ha2, ha3⟩ := hop (hAt S 0 as h) hread
          rw [← aop_congr hev] at ha1
          obtain ⟨cv, w', g1, σ', g2, g3, g4, g5⟩ := aop_ok hr.sr hr.tr (fun n h1 h2 => by
            obtain rfl : n = k + i := by omega
            exact hfree i hlt hSi) ha1
          have hnx' : ∀ n, nx ≤ n → σ' n = none := fun n hn' => by rw [g3 n (by omega)]; exact hr.nx n hn'
          have hr' := hr.put g2 g4 hnx' o.dst hdo g5
          have hk' : Keep B O σ' (ovr (hAt S 0 as h) a.ws) w' nx := ⟨fun x v q => g4 _ _ (hk.vr _ _ q), hk.nx, fun n hn' => (g3 n (.inl (by omega))).trans (hk.σ n hn')⟩
          have := next σ' _ w' nx hr' hk' (Nat.le_refl _) (fun j hj hjs hne => by rw [g3 (k + j) (by omega)]; exact hfree j hj hjs)
          unfold Oper.wp
          rcases g1 with g1 | ⟨g1, rfl⟩
          · rw [g1]; exact this
          · rw [g1]; exact this
        · obtain ⟨dst, op, ty, pos, after, guard⟩ := o
          simp only at hcl
          subst hcl
          have hca2 : calleeW (tmAt S 0 ops as tm) cl = some (f, args) := by
            rw [calleeW_congr (tm' := tmAt (fun j => decide (j < i)) 0 ops as tm) (fun x hx => hev x hx)]
            exact hca
          unfold calleeW at hca2
          obtain ⟨⟨f', args'⟩, e1, e2⟩ := Option.map_eq_some_iff.1 hca2
          simp only [Prod.mk.injEq] at e2
          obtain ⟨rfl, rfl⟩ := e2
          obtain ⟨vs, e3, e4⟩ := calleeA_ok (P := P) (dst := dst) (ty := ty) (pos := pos) (after := after) (guard := guard) hr.tr e1 hcb
          unfold Oper.wp
          rw [e3]
          refine (hcalls (hAt S 0 as h) nx hread B w0 ⟨σ, hAt S 0 as h, w, nx⟩ σ w vs hr.sr hr.nx (.refl _ _ _ _) e4.weak).mono ?_
          rintro e w' ⟨ae, h'', nx', σ', c1, c2, c3, c4, rfl, rfl⟩
          cases c1 with
          | ret _ v hv =>
          exact next σ' _ w' nx' (hr.put c2 c4.vr c3 dst hdo hv) (hk.trans c4.vr c4.nx c4.σ) c4.nx (fun j hj hjs hne => by rw [c4.σ (k + j) (by simp only; omega)]; exact hfree j hj hjs)
  -- the begin
  have hdw : ({ w with drawn := w.drawn + 1 } : World) = w.drew := rfl
  obtain ⟨d1, d2⟩ := hr.sr.drew (w.drawn + 1)
  have hS0 : tmAt (fun _ => false) 0 ops as tm = tm := tmAt_false _ _ _ _ _ fun _ _ => rfl
  have hH0 : hAt (fun _ => false) 0 as h = h := hAt_false _ _ _ _ fun _ _ => rfl
  have := key ops.length (Array.replicate ops.length false) (fun _ => false) act { w with drawn := w.drawn + 1 } σ (k + ops.length) (by simp) (fun j hj => by simp [Array.getD_eq_getD_getElem?, hj]) (fun _ _ => rfl) (fun i o h => by cases h) (Nat.le_trans (List.length_filter_le _ _) (by simp))
    (by rw [hS0, hH0]; exact ⟨d1, fun t => d2 _ _ (hr.tr t), hr.nt, fun n hn' => hr.nx n (by have : k + ops.length ≤ n := hn'; simp only; omega), hr.df.mono d2⟩)
    (by rw [hH0]; exact ⟨fun a v q => d2 _ _ (hk.vr _ _ q), by have := hk.nx; simp only at this; omega, hk.σ⟩) (Nat.le_refl _) (fun j hj _ => hr.nx (k + j) (by simp only; omega))
  simpa using this
end
end Go.Proofs.Ytcnofpoffdjbpaa.AE
