/- An operation on abstract values, and that the model's does the like. No program in sight. -/
import Derived.Test.YtcnofpoffdjbpaaB0
import Derived.Lib.ConvBytes
namespace Go.Proofs.Ytcnofpoffdjbpaa.AE
open Go Go.RowKit
set_option linter.unusedVariables false
set_option linter.unusedSimpArgs false
variable {P : Program}

def evA (tm : Nat → AV) : Operand → AV
  | .tmp t => tm t
  | .const v => avOf v
  | .func f => .fn (.func f) [] []
  | .global _ => .undef
def pickA (c : Bool) (a b : AV) : AV :=
  match a, b with
  | .bool x, .bool y => .bool (if c = true then x else y)
  | a, b => if c = true then a else b
def AV.okPart : AV → Bool
  | .undef | .tup _ => false
  | _ => true
/-- A text's octets, in a row of one's own. -/
def aBytes (P : Program) (h : AHeap) (k : Nat) (src dst : TypeId) (x : AV) : Option (AV × AHeap) :=
  match P.underlying src, P.underlying dst, x with
  | some .string, some (.slice e), .str l => match P.underlying e with
    | some (.int .u8) => some (.hs k 0 l.length, upd h k (some ⟨1, l.map fun c => [.int .u8 c]⟩))
    | _ => none
  | _, _, _ => none
def elemT (P : Program) (t : TypeId) : Option TypeId := match P.underlying t with
  | some (.slice e) => some e
  | _ => none
def aBuiltin (P : Program) (h : AHeap) (k : Nat) (b : Builtin) (ts : List TypeId) (args : List AV) : Option (AV × AHeap × Nat) :=
  match b, ts, args with
  | .len, [t], [x] => (aLen P t x).map fun v => (v, h, k)
  | .cap, [t], [.zs] => if (elemT P t).isSome = true then some (.int .i64 0, h, k) else none
  | .append, [t, tx], [x, y] => (aAppend P h k t tx x y).map fun r => (r.1, r.2, k + 1)
  | .copy, [t, tx], [x, y] => (aCopy P h t tx x y).map fun r => (r.1, r.2, k)
  | .clear, [t], [x] => (aClear P h t x).map fun h' => (.tup [], h', k)
  | .min, _, [x, y] => (aMin x y).map fun v => (v, h, k)
  | .max, _, [x, y] => (aMax x y).map fun v => (v, h, k)
  | _, _, _ => none
def aop (P : Program) (o : Op) (tm : Nat → AV) (h : AHeap) (k : Nat) : Option (AV × AHeap × Nat) :=
  match o with
  | .move x => some (evA tm x, h, k)
  | .assign x => some (evA tm x, h, k)
  | .pick c a b => match evA tm c with
    | .bool c => some (pickA c (evA tm a) (evA tm b), h, k)
    | _ => none
  | .alloc t => (aAlloc P h k t).map fun r => (r.1, r.2, k + 1)
  | .box _ x => (aBox h k (evA tm x)).map fun r => (r.1, r.2, k + 1)
  | .build t ps => if (ps.toList.all fun p => (evA tm p.2).okPart) = true then (aBuild P t (ps.toList.map fun p => (p.1, evA tm p.2))).map fun v => (v, h, k) else none
  | .buildSlice t len ps => (aBuildSlice P h k t len (ps.toList.map fun p => (p.1, evA tm p.2))).map fun r => (r.1, r.2, k + 1)
  | .load t a => (aLoad P h t (evA tm a)).map fun v => (v, h, k)
  | .store t a x => (aStore P h t (evA tm a) (evA tm x)).map fun h' => (.undef, h', k)
  | .nilCheck x => match evA tm x with
    | .ptr n e j => some (.ptr n e j, h, k)
    | .ip cs => some (.ip cs, h, k)
    | _ => none
  | .binOp op t x y _ => (aBin P op t (evA tm x) (evA tm y)).map fun v => (v, h, k)
  | .unOp op _ x => (aUn op (evA tm x)).map fun v => (v, h, k)
  | .convert s d x => match aConv P h s d (evA tm x) with
    | some v => some (v, h, k)
    | none => (aBytes P h k s d (evA tm x)).map fun r => (r.1, r.2, k + 1)
  | .makeInterface t x => if P.concrete t = true then some (.iface t (evA tm x), h, k) else none
  | .makeFunc f as bs => some (.fn f (as.toList.map (evA tm)) (bs.toList.map (evA tm)), h, k)
  | .makeSlice t l c => (aMake P h k t (evA tm l) (evA tm c)).map fun r => (r.1, r.2, k + 1)
  | .slice t x lo hi mx => (aSlice P h t (evA tm x) (lo.map (evA tm)) (hi.map (evA tm)) (mx.map (evA tm))).map fun v => (v, h, k)
  | .fieldAddr t x f => (aField P t (evA tm x) f).map fun v => (v, h, k)
  | .field t x f => (aFieldOf P t (evA tm x) f).map fun v => (v, h, k)
  | .indexAddr t x i => (aIndexAddr P h t (evA tm x) (evA tm i)).map fun v => (v, h, k)
  | .index t x i => (aIndex P t (evA tm x) (evA tm i)).map fun v => (v, h, k)
  | .extract x i => (aExtract (evA tm x) i).map fun v => (v, h, k)
  | .call ⟨.builtin b, args, ts⟩ => aBuiltin P h k b ts.toList (args.toList.map (evA tm))
  | _ => none

section
variable {σ : Sig} {w w0 : World} {X : Nat → Nat → Prop} {B : Nat} {h h' : AHeap} {k k' : Nat} {tm : Nat → AV} {act : Act}
/-- What the temporaries hold. -/
def TR (σ : Sig) (w : World) (X : Nat → Nat → Prop) (B : Nat) (tm : Nat → AV) (tmps : Array Value) : Prop := ∀ t, VR σ w X B (tm t) (tmps.getD t undef)
theorem TR.put {tmps : Array Value} (ht : TR σ w X B tm tmps) {d : Nat} (hd : d < tmps.size) {a : AV} {v : Value} (hv : VR σ w X B a v) : TR σ w X B (upd tm d a) (tmps.setIfInBounds d v) := fun t => by
  by_cases e : t = d
  · subst e
    rw [upd_same]
    simp [Array.getD, hd]
    exact hv
  · rw [upd_ne _ _ _ e]
    have := ht t
    have h2 : (tmps.setIfInBounds d v).getD t undef = tmps.getD t undef := by
      simp only [Array.getD_eq_getD_getElem?]
      rw [Array.getElem?_setIfInBounds_ne (by omega)]
    rw [h2]
    exact this
theorem TR.eval (ht : TR σ w X B tm act.tmps) (o : Operand) : VR σ w X B (evA tm o) (act.eval o) := by
  cases o with
  | tmp t => exact ht t
  | const v => exact .of v
  | func f => exact .fn _ [] [] #[] #[] rfl rfl (fun j c v h => by simp at h) (fun j c v h => by simp at h)
  | global g => exact .undef _
theorem VR.pick {c : Bool} {a b : AV} {va vb : Value} (ha : VR σ w X B a va) (hb : VR σ w X B b vb) : VR σ w X B (pickA c a b) (if c then va else vb) := by
  unfold pickA
  split
  · cases ha; cases hb
    cases c
    · exact .bool _
    · exact .bool _
  · cases c
    · exact hb
    · exact ha
/-- A new row in whatever world has it behind all that was there. -/
theorem SR.rowW (hs : SR B w0 σ h w) (k : Nat) (hk : σ k = none) (es : List (List AV)) (sz : Nat) (hsz : ∀ e ∈ es, e.length = sz) (hbig : es.length < big) (vs rest : List Value) (t : TypeId) (fz : Nat × Nat)
    (hv : VRs σ w (Held σ h) B es.flatten vs) (h1 : ∀ e ∈ es, ∀ a ∈ e, a.one = true) (w' : World) (hw : w'.heap = w.heap.push (.cells (vs ++ rest).toArray t fz)) (ho : w'.os = w.os) (hta : w'.tape = w.tape) (hou : w'.output = w.output)
    (hfz : fz.2 ≤ fz.1 ∨ (vs ++ rest).length ≤ fz.1) :
    SR B w0 (upd σ k (some ⟨w.heap.size, 0, (vs ++ rest).length, sz⟩)) (upd h k (some ⟨sz, es⟩)) w' ∧
      ∀ a v, VR σ w (Held σ h) B a v → VR (upd σ k (some ⟨w.heap.size, 0, (vs ++ rest).length, sz⟩)) w' (Held (upd σ k (some ⟨w.heap.size, 0, (vs ++ rest).length, sz⟩)) (upd h k (some ⟨sz, es⟩))) B a v := by
  have lt : ∀ b i, (w.cell? ⟨b, i, none⟩).isSome = true → b < w.heap.size := fun b i hb => by
    rcases Nat.lt_or_ge b w.heap.size with q | q
    · exact q
    · simp [World.cell?, Array.getElem?_eq_none q] at hb
  have old : ∀ b, b < w.heap.size → w'.heap[b]? = w.heap[b]? := fun b hb => by rw [hw, Array.getElem?_push, if_neg (by omega)]
  have new : w'.heap[w.heap.size]? = some (.cells (vs ++ rest).toArray t fz) := by rw [hw]; simp
  have := hs.turn (w' := w') (fun _ => false) k ⟨w.heap.size, 0, (vs ++ rest).length, sz⟩ ⟨sz, es⟩ (.inl hk)
    ⟨ho, hta, hou, by rw [hw]; simp, fun b hb => old b (Nat.lt_of_lt_of_le hb hs.hB)⟩
    (fun b i v hv _ => by rw [World.cell?_of_block (w := w) (a := ⟨b, i, none⟩) (old b (lt b i (by rw [hv]; rfl)))]; exact hv)
    (fun b i hb => World.frozen?_of_block (w := w) (a := ⟨b, i, none⟩) (old b (lt b i hb))) hs.hB
    (fun i hi => ⟨by
        have hi2 := hi.2.2
        simp only [Nat.zero_add] at hi2
        simp only [World.cell?, new]
        rw [List.length_append] at hi2
        simp
        omega, by
        have hi2 := hi.2.2
        simp only [Nat.zero_add] at hi2
        simp only [World.frozen?, new]
        simp
        omega, .inl (by simp [World.cell?])⟩) rfl (by
      have h2 := flatten_length hsz
      have h3 := hv.1
      simp
      omega) hbig
    (fun i e he => ⟨hsz e (List.mem_of_getElem? he), fun j a ha => by
      obtain ⟨v, h3, h4⟩ := hv.get (flatten_get hsz he ha)
      have hone := h1 e (List.mem_of_getElem? he) a (List.mem_of_getElem? ha)
      have hl := (List.getElem?_eq_some_iff.1 h3).1
      refine ⟨hone, v, h4.oneCell hone, ?_, h4⟩
      simp only [World.cell?, new]
      simp only [Nat.zero_add, List.getElem?_toArray, Option.isSome_none, Bool.false_eq_true, if_false]
      rw [List.getElem?_append_left hl]
      exact h3⟩)
  simpa using this
theorem octs_cells (s : ByteArray) : VRs σ w X B ((octs s).map fun c => [AV.int .u8 c]).flatten (byteCells s) ∧ (∀ e ∈ (octs s).map fun c => [AV.int .u8 c], ∀ a ∈ e, a.one = true) ∧ ∀ e ∈ (octs s).map fun c => [AV.int .u8 c], e.length = 1 := by
  refine ⟨?_, fun e he a ha => ?_, fun e he => ?_⟩
  · have e2 : ((octs s).map fun c => [AV.int .u8 c]).flatten = s.data.toList.map fun b => AV.int .u8 (b.toNat : Int) := by
      unfold octs
      rw [List.map_map]
      induction s.data.toList with
      | nil => rfl
      | cons b l ih => simp [ih]
    rw [e2]
    refine ⟨by simp [byteCells], fun j c v hc hv => ?_⟩
    unfold byteCells at hv
    rw [List.getElem?_map] at hc hv
    cases hb : s.data.toList[j]? with
    | none => simp [hb] at hc
    | some b =>
      simp only [hb, Option.map_some, Option.some.injEq] at hc hv
      subst hc hv
      refine .int _ _ ⟨?_, ?_⟩
      · simp [IntKind.min, IntKind.signed]
      · have := b.toNat_lt
        simp [IntKind.max, IntKind.signed, IntKind.bits]
        omega
  · obtain ⟨c, _, rfl⟩ := List.mem_map.1 he
    simp at ha
    subst ha
    rfl
  · obtain ⟨c, _, rfl⟩ := List.mem_map.1 he
    rfl
theorem aBytes_ok (hs : SR B w0 σ h w) (hk : σ k = none) {src dst : TypeId} {x v : AV} {cx : Value} (hl : aBytes P h k src dst x = some (v, h')) (hx : VR σ w (Held σ h) B x cx) :
    ∃ cv w', (convert src dst cx).run P w = .ok cv w' ∧ Out B w0 σ h w k (k + 1) v h' cv w' := by
  unfold aBytes at hl
  split at hl <;> try (cases hl; done)
  rename_i e l hsrc hdst
  split at hl <;> cases hl
  rename_i he
  generalize hc : AV.str l = a at hx
  cases hx <;> cases hc
  rename_i s hb
  obtain ⟨q1, q2, q3⟩ := octs_cells (σ := σ) (w := w) (X := Held σ h) (B := B) s
  have hrun := Go.Lib.run_convert_string_bytes (P := P) w src dst e s hsrc hdst he
  have hcap := grownCap_ge w s.size 0 e
  have hbc : Go.Lib.bytesCells w e s = (byteCells s ++ List.replicate (grownCap w s.size 0 e - s.size) (Value.int .u8 0)).toArray := by
    apply Array.ext'
    simp [Go.Lib.bytesCells, byteCells]
  have hcl : (byteCells s ++ List.replicate (grownCap w s.size 0 e - s.size) (Value.int .u8 0)).length = grownCap w s.size 0 e := by
    rw [List.length_append, byteCells_length, List.length_replicate]
    omega
  have hheap : (Go.Lib.bytesWorld w e s).heap = w.heap.push (.cells (byteCells s ++ List.replicate (grownCap w s.size 0 e - s.size) (Value.int .u8 0)).toArray e ((byteCells s ++ List.replicate (grownCap w s.size 0 e - s.size) (Value.int .u8 0)).length, (byteCells s ++ List.replicate (grownCap w s.size 0 e - s.size) (Value.int .u8 0)).length + 1)) := by
    apply Array.ext_getElem?
    intro i
    rcases Nat.lt_trichotomy i w.heap.size with hi | hi | hi
    · rw [Go.Lib.bytesWorld_at_old w e s i hi, Array.getElem?_push, if_neg (by omega)]
    · subst hi
      rw [Go.Lib.bytesWorld_at_new, hbc]
      simp
    · rw [Array.getElem?_eq_none (by rw [Go.Lib.bytesWorld_size]; omega), Array.getElem?_eq_none (by simp; omega)]
  have hos : (Go.Lib.bytesWorld w e s).os = w.os ∧ (Go.Lib.bytesWorld w e s).tape = w.tape ∧ (Go.Lib.bytesWorld w e s).output = w.output := by
    unfold Go.Lib.bytesWorld World.freeze
    split <;> exact ⟨rfl, rfl, rfl⟩
  obtain ⟨r1, r2⟩ := hs.rowW k hk _ 1 q3 (by rw [List.length_map, octs_length]; exact hb) (byteCells s) (List.replicate (grownCap w s.size 0 e - s.size) (Value.int .u8 0)) e _ q1 q2 (Go.Lib.bytesWorld w e s) hheap hos.1 hos.2.1 hos.2.2 (.inr (Nat.le_refl _))
  refine ⟨_, _, hrun, _, r1, fun n hn => upd_ne _ _ _ (by omega), r2, ?_⟩
  rw [octs_length]
  exact VR.row hcap hb (by rw [hcl]; omega)
end
end Go.Proofs.Ytcnofpoffdjbpaa.AE
