/- Regions whose order is drawn: whatever the order, the walk in the text's order tells the outcome, if what is not ordered does not meet. No program in sight. -/
import Derived.Test.YtcnofpoffdjbpaaB6
import Derived.Orders
namespace Go.Proofs.Ytcnofpoffdjbpaa.AE
open Go Go.RowKit
set_option linter.unusedVariables false
set_option linter.unusedSimpArgs false
variable {P : Program}

def ovr (h : AHeap) : List (Nat × Option Blk) → AHeap
  | [] => h
  | w :: ws => ovr (upd h w.1 w.2) ws
/-- What an operation does: its value, what it reads, what it writes. -/
structure Ac where
  v : AV
  rd : List Nat
  ws : List (Nat × Option Blk)
/-- That an operation does this, at temporaries tm, wherever what it reads is as in h; kk: the name that it may give. -/
def ActOk (P : Program) (ops : Array Oper) (o : Oper) (tm : Nat → AV) (h : AHeap) (kk : Nat) (a : Ac) : Prop :=
  (guardA ops tm o.guard = some false ∧ a.v = .tup [] ∧ a.ws = []) ∨
  (guardA ops tm o.guard = some true ∧
    ((∀ g : AHeap, (∀ m ∈ a.rd, g m = h m) → ∃ k', aop P o.op tm g kk = some (a.v, ovr g a.ws, k') ∧ kk ≤ k' ∧ k' ≤ kk + 1) ∨
     (∃ cl f args, o.op = .call cl ∧ calleeW tm cl = some (f, args) ∧ callable P f = true ∧ ∀ (g : AHeap) (nx : Nat), (∀ m ∈ a.rd, g m = h m) → aCalls P f args g nx (fun e h' k' => e = .ret a.v ∧ h' = ovr g a.ws))))
inductive Acts (P : Program) (ops : Array Oper) (k : Nat) : Nat → List Oper → (Nat → AV) → AHeap → List Ac → (Nat → AV) → AHeap → Prop
  | nil (i : Nat) (tm : Nat → AV) (h : AHeap) : Acts P ops k i [] tm h [] tm h
  | cons {i : Nat} {o : Oper} {rest : List Oper} {tm tm' : Nat → AV} {h h' : AHeap} (a : Ac) {as : List Ac} (h1 : ActOk P ops o tm h (k + i) a) (h2 : Acts P ops k (i + 1) rest (putA tm o.dst a.v) (ovr h a.ws) as tm' h') : Acts P ops k i (o :: rest) tm h (a :: as) tm' h'

/-! ### which comes ahead of which -/
def predsL : List Oper → List (List Nat) → List (List Nat)
  | [], acc => acc
  | o :: os, acc => predsL os (acc ++ [((o.after.toList.filter fun e => Region.binds .any e).flatMap fun e => e.on :: acc.getD e.on []).eraseDups])
def preds (ops : List Oper) : List (List Nat) := predsL ops []
def edgesOk : Nat → List Oper → Bool
  | _, [] => true
  | i, o :: os => (o.after.toList.all fun e => !Region.binds .any e || decide (e.on < i)) && edgesOk (i + 1) os
/-- The slots that an operation looks at, or writes. -/
def slots (ops : Array Oper) (o : Oper) : List Nat :=
  o.dst.toList ++ (o.op.operands.toList.filterMap fun | .tmp t => some t | _ => none) ++ (match o.guard with | some (j, _) => ((ops[j]?).bind (·.dst)).toList | none => [])
def ordB (ps : List (List Nat)) (i j : Nat) : Bool := if j < i then (ps.getD i []).contains j else (ps.getD j []).contains i
def slotsOk (ops : List Oper) : Bool :=
  let ps := preds ops
  ops.zipIdx.all fun (o, i) => ops.zipIdx.all fun (o', j) => i == j || (match o'.dst with | some d => !(slots ops.toArray o).contains d || ordB ps i j | none => true)
def plainOps (ops : List Oper) : Bool := ops.all fun o => match o.op with | .select .. => false | _ => true
def drawOk (ops : List Oper) : Bool := edgesOk 0 ops && slotsOk ops && plainOps ops
/-- No two that are not ordered meet in memory. -/
def namesOk (ops : List Oper) (as : List Ac) : Prop :=
  ∀ i j a b, as[i]? = some a → as[j]? = some b → i ≠ j → ∀ m, m ∈ a.rd ∨ m ∈ a.ws.map (·.1) → m ∈ b.ws.map (·.1) → ordB (preds ops) i j = true

section
/-- All that comes ahead of an operation that is ready has been done. -/
def Closed (ops : List Oper) (S : Nat → Bool) : Prop := ∀ i o, S i = true → ops[i]? = some o → ∀ e ∈ o.after, Region.binds .any e = true → S e.on = true
theorem getD_append {α : Type} (l m : List α) (i : Nat) (d : α) (h : i < l.length) : (l ++ m).getD i d = l.getD i d := by
  simp [List.getD, List.getElem?_append_left h]
theorem predsL_get : ∀ (os : List Oper) (acc : List (List Nat)) (i : Nat), i < acc.length → (predsL os acc).getD i [] = acc.getD i []
  | [], acc, i, _ => rfl
  | o :: os, acc, i, h => by
    rw [predsL, predsL_get os _ i (by simp; omega), getD_append _ _ _ _ h]
theorem mem_eraseDups {α : Type} [BEq α] [LawfulBEq α] {l : List α} {a : α} (h : a ∈ l.eraseDups) : a ∈ l := by
  exact List.mem_eraseDups.1 h
theorem predsL_sound {ops : List Oper} {S : Nat → Bool} (hc : Closed ops S) : ∀ (os : List Oper) (acc : List (List Nat)) (n : Nat), acc.length = n → (∀ j o, os[j]? = some o → ops[n + j]? = some o) → edgesOk n os = true →
    (∀ i o, i < n → ops[i]? = some o → (∀ e ∈ o.after, Region.binds .any e = true → S e.on = true) → ∀ j ∈ acc.getD i [], S j = true) →
    ∀ i o, i < n + os.length → ops[i]? = some o → (∀ e ∈ o.after, Region.binds .any e = true → S e.on = true) → ∀ j ∈ (predsL os acc).getD i [], S j = true
  | [], acc, n, hn, hops, he, h, i, o, hi, ho, hr, j, hj => h i o (by simpa using hi) ho hr j hj
  | x :: os, acc, n, hn, hops, he, h, i, o, hi, ho, hr, j, hj => by
    simp only [edgesOk, Bool.and_eq_true] at he
    have hx := hops 0 x rfl
    rw [Nat.add_zero] at hx
    refine predsL_sound hc os _ (n + 1) (by simp [hn]) (fun j o hj => by rw [show n + 1 + j = n + (j + 1) by omega]; exact hops (j + 1) o (by simpa using hj)) he.2 ?_ i o (by simp at hi; omega) ho hr j hj
    intro i o hi ho hr j hj
    by_cases hin : i < n
    · rw [getD_append _ _ _ _ (by omega)] at hj
      exact h i o hin ho hr j hj
    · obtain rfl : i = n := by omega
      rw [hx] at ho
      cases ho
      have hj2 : j ∈ ((x.after.toList.filter fun e => Region.binds .any e).flatMap fun e => e.on :: acc.getD e.on []).eraseDups := by
        have : (acc ++ [((x.after.toList.filter fun e => Region.binds .any e).flatMap fun e => e.on :: acc.getD e.on []).eraseDups]).getD i [] = ((x.after.toList.filter fun e => Region.binds .any e).flatMap fun e => e.on :: acc.getD e.on []).eraseDups := by
          rw [List.getD, List.getElem?_append_right (by omega), hn]
          simp
        rwa [this] at hj
      obtain ⟨e, he1, he2⟩ := List.mem_flatMap.1 (mem_eraseDups hj2)
      obtain ⟨he3, he4⟩ := List.mem_filter.1 he1
      have he5 := hr e (by simpa using he3) (by simpa using he4)
      rcases List.mem_cons.1 he2 with rfl | he6
      · exact he5
      · have hlt : e.on < i := by
          have := List.all_eq_true.1 he.1 e he3
          simp only [he4, Bool.not_true, Bool.false_or, decide_eq_true_eq] at this
          exact this
        cases hoe : ops[e.on]? with
        | none =>
          exfalso
          have h1 : ops.length ≤ e.on := by simpa using hoe
          have h2 := (List.getElem?_eq_some_iff.1 hx).1
          omega
        | some oe => exact h e.on oe hlt hoe (fun e' h1 h2 => hc e.on oe he5 hoe e' h1 h2) j he6
theorem preds_sound {ops : List Oper} {S : Nat → Bool} (hc : Closed ops S) (he : edgesOk 0 ops = true) {i : Nat} {o : Oper} (ho : ops[i]? = some o) (hr : ∀ e ∈ o.after, Region.binds .any e = true → S e.on = true) {j : Nat} (hj : j ∈ (preds ops).getD i []) : S j = true :=
  predsL_sound hc ops [] 0 rfl (fun j o h => by simpa using h) he (fun i o hi => by omega) i o (by have := (List.getElem?_eq_some_iff.1 ho).1; omega) ho hr j hj

/-! ### states behind some of the operations -/
def tmAt (S : Nat → Bool) : Nat → List Oper → List Ac → (Nat → AV) → (Nat → AV)
  | i, o :: os, a :: as, tm => tmAt S (i + 1) os as (if S i = true then putA tm o.dst a.v else tm)
  | _, _, _, tm => tm
def hAt (S : Nat → Bool) : Nat → List Ac → AHeap → AHeap
  | i, a :: as, h => hAt S (i + 1) as (if S i = true then ovr h a.ws else h)
  | _, [], h => h
theorem putA_other {tm : Nat → AV} {d : Option Nat} {v : AV} {t : Nat} (h : d ≠ some t) : putA tm d v t = tm t := by
  cases d with
  | none => rfl
  | some d => exact upd_ne _ _ _ (fun e => h (by rw [e]))
theorem putA_same {tm tm' : Nat → AV} {d : Option Nat} {v : AV} {t : Nat} (h : d = some t) : putA tm d v t = putA tm' d v t := by
  subst h
  simp [putA, upd_same]
theorem ovr_other : ∀ {ws : List (Nat × Option Blk)} {h : AHeap} {m : Nat}, m ∉ ws.map (·.1) → ovr h ws m = h m
  | [], _, _, _ => rfl
  | w :: ws, h, m, hm => by
    simp only [List.map_cons, List.mem_cons, not_or] at hm
    rw [ovr, ovr_other hm.2, upd_ne _ _ _ hm.1]
theorem ovr_same : ∀ {ws : List (Nat × Option Blk)} {h h' : AHeap} {m : Nat}, m ∈ ws.map (·.1) → ovr h ws m = ovr h' ws m
  | w :: ws, h, h', m, hm => by
    by_cases hw : m ∈ ws.map (·.1)
    · rw [ovr, ovr]
      exact ovr_same hw
    · simp only [List.map_cons, List.mem_cons] at hm
      rw [ovr, ovr, ovr_other hw, ovr_other hw]
      rcases hm with rfl | hm
      · rw [upd_same, upd_same]
      · exact absurd hm hw
/-- What is looked at is the same, if the same operations have written it. -/
theorem tmAt_congr {S S' : Nat → Bool} {t : Nat} : ∀ {i : Nat} {os : List Oper} {as : List Ac} {tm tm' : Nat → AV}, (∀ j o, os[j]? = some o → o.dst = some t → S (i + j) = S' (i + j)) → tm t = tm' t → tmAt S i os as tm t = tmAt S' i os as tm' t
  | i, [], as, tm, tm', _, h => by simpa [tmAt] using h
  | i, o :: os, [], tm, tm', _, h => by simpa [tmAt] using h
  | i, o :: os, a :: as, tm, tm', hd, h => by
    rw [tmAt, tmAt]
    refine tmAt_congr (fun j o' hj ho => by rw [show i + 1 + j = i + (j + 1) by omega]; exact hd (j + 1) o' (by simpa using hj) ho) ?_
    by_cases ho : o.dst = some t
    · have := hd 0 o rfl ho
      rw [Nat.add_zero] at this
      rw [← this]
      split
      · exact putA_same ho
      · exact h
    · split <;> split <;> simp only [putA_other ho, h]
theorem hAt_congr {S S' : Nat → Bool} {m : Nat} : ∀ {i : Nat} {as : List Ac} {h h' : AHeap}, (∀ (j : Nat) a, as[j]? = some a → m ∈ a.ws.map (·.1) → S (i + j) = S' (i + j)) → h m = h' m → hAt S i as h m = hAt S' i as h' m
  | i, [], h, h', _, hm => by simpa [hAt] using hm
  | i, a :: as, h, h', hd, hm => by
    rw [hAt, hAt]
    refine hAt_congr (fun j a' hj ha => by rw [show i + 1 + j = i + (j + 1) by omega]; exact hd (j + 1) a' (by simpa using hj) ha) ?_
    by_cases ha : m ∈ a.ws.map (·.1)
    · have := hd 0 a rfl ha
      rw [Nat.add_zero] at this
      rw [← this]
      split
      · exact ovr_same ha
      · exact hm
    · split <;> split <;> simp only [ovr_other ha, hm]
def setS (S : Nat → Bool) (i : Nat) : Nat → Bool := fun j => decide (j = i) || S j
/-- One operation more. -/
theorem tmAt_step {S : Nat → Bool} : ∀ {i0 : Nat} {os : List Oper} {as : List Ac} {tm : Nat → AV} {i : Nat} {o : Oper} {a : Ac}, os[i]? = some o → as[i]? = some a → S (i0 + i) = false → (∀ (j : Nat) o', i < j → os[j]? = some o' → (∃ d, o.dst = some d ∧ o'.dst = some d) → S (i0 + j) = false) →
    tmAt (setS S (i0 + i)) i0 os as tm = putA (tmAt S i0 os as tm) o.dst a.v
  | i0, [], as, tm, i, o, a, ho, _, _, _ => by simp at ho
  | i0, x :: os, [], tm, i, o, a, _, ha, _, _ => by simp at ha
  | i0, x :: os, y :: as, tm, 0, o, a, ho, ha, hS, hl => by
    simp at ho ha
    subst ho ha
    rw [tmAt, tmAt]
    rw [Nat.add_zero] at hS ⊢
    have h1 : setS S i0 i0 = true := by simp [setS]
    rw [if_pos h1, if_neg (by rw [hS]; decide)]
    funext t
    by_cases ht : x.dst = some t
    · -- nothing behind writes t
      have hno : ∀ (j : Nat) o', os[j]? = some o' → o'.dst = some t → S (i0 + 1 + j) = false := fun j o' hj ho' => by
        have := hl (j + 1) o' (by omega) (by simpa using hj) ⟨t, ht, ho'⟩
        rwa [show i0 + 1 + j = i0 + (j + 1) by omega]
      have e1 : tmAt (setS S i0) (i0 + 1) os as (putA tm x.dst y.v) t = putA tm x.dst y.v t := by
        have := tmAt_congr (S := setS S i0) (S' := fun _ => false) (t := t) (i := i0 + 1) (os := os) (as := as) (tm := putA tm x.dst y.v) (tm' := putA tm x.dst y.v) (fun j o' hj ho' => by simp [setS, hno j o' hj ho']; omega) rfl
        rw [this]
        clear this hno hl
        generalize putA tm x.dst y.v = f
        generalize i0 + 1 = q
        induction os generalizing as q with
        | nil => simp [tmAt]
        | cons z os ih =>
          cases as with
          | nil => simp [tmAt]
          | cons b as => rw [tmAt]; simpa using ih as (q + 1)
      rw [e1]
      exact putA_same ht
    · rw [putA_other ht]
      refine tmAt_congr (fun j o' hj ho' => by simp [setS]; omega) (putA_other ht)
  | i0, x :: os, y :: as, tm, i + 1, o, a, ho, ha, hS, hl => by
    rw [tmAt, tmAt]
    have h1 : setS S (i0 + (i + 1)) i0 = S i0 := by simp [setS]
    rw [h1, show i0 + (i + 1) = i0 + 1 + i by omega]
    exact tmAt_step (by simpa using ho) (by simpa using ha) (by rwa [show i0 + 1 + i = i0 + (i + 1) by omega]) (fun j o' hj ho' hd => by
      have := hl (j + 1) o' (by omega) (by simpa using ho') hd
      rwa [show i0 + 1 + j = i0 + (j + 1) by omega])
theorem hAt_none : ∀ {as : List Ac} {h : AHeap} {m q : Nat} {S : Nat → Bool}, (∀ (j : Nat) a, as[j]? = some a → m ∈ a.ws.map (·.1) → S (q + j) = false) → hAt S q as h m = h m
  | [], _, _, _, _, _ => rfl
  | a :: as, h, m, q, S, hd => by
    rw [hAt, hAt_none (fun j a' hj ha => by rw [show q + 1 + j = q + (j + 1) by omega]; exact hd (j + 1) a' (by simpa using hj) ha)]
    by_cases ha : m ∈ a.ws.map (·.1)
    · have := hd 0 a rfl ha
      rw [Nat.add_zero] at this
      rw [this]
      simp
    · split
      · rw [ovr_other ha]
      · rfl
theorem hAt_step {S : Nat → Bool} : ∀ {i0 : Nat} {as : List Ac} {h : AHeap} {i : Nat} {a : Ac}, as[i]? = some a → S (i0 + i) = false → (∀ (j : Nat) b, i < j → as[j]? = some b → (∃ m, m ∈ a.ws.map (·.1) ∧ m ∈ b.ws.map (·.1)) → S (i0 + j) = false) →
    hAt (setS S (i0 + i)) i0 as h = ovr (hAt S i0 as h) a.ws
  | i0, [], h, i, a, ha, _, _ => by simp at ha
  | i0, y :: as, h, 0, a, ha, hS, hl => by
    simp at ha
    subst ha
    rw [hAt, hAt]
    rw [Nat.add_zero] at hS ⊢
    have h1 : setS S i0 i0 = true := by simp [setS]
    rw [if_pos h1, if_neg (by rw [hS]; decide)]
    funext m
    by_cases hm : m ∈ y.ws.map (·.1)
    · rw [hAt_none (fun j b hj hb => by
        have := hl (j + 1) b (by omega) (by simpa using hj) ⟨m, hm, hb⟩
        simp [setS, show i0 + 1 + j = i0 + (j + 1) by omega, this])]
      exact ovr_same hm
    · rw [ovr_other hm]
      exact hAt_congr (fun j b hj hb => by simp [setS]; omega) (ovr_other hm)
  | i0, y :: as, h, i + 1, a, ha, hS, hl => by
    rw [hAt, hAt]
    have h1 : setS S (i0 + (i + 1)) i0 = S i0 := by simp [setS]
    rw [h1, show i0 + (i + 1) = i0 + 1 + i by omega]
    exact hAt_step (by simpa using ha) (by rwa [show i0 + 1 + i = i0 + (i + 1) by omega]) (fun j b hj hb hd => by
      have := hl (j + 1) b (by omega) (by simpa using hb) hd
      rwa [show i0 + 1 + j = i0 + (j + 1) by omega])
end
end Go.Proofs.Ytcnofpoffdjbpaa.AE
