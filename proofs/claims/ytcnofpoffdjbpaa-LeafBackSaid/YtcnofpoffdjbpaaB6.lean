/- Loops, conditions, ends, as a walk wants them. No program in sight. -/
import Derived.Test.YtcnofpoffdjbpaaB5
namespace Go.Proofs.Ytcnofpoffdjbpaa.AE
open Go Go.RowKit
set_option linter.unusedVariables false
set_option linter.unusedSimpArgs false
section
variable {P : Program} {nt : Nat} {Q : AX → St → Prop} {st : St} {c x y : Code} {o : Operand}
theorem aWp_cond_t (hc : evA st.tm o = .bool true) (h : aWp P nt x Q st) : aWp P nt (.cond o x y) Q st := aWp_cond hc h
theorem aWp_cond_f (hc : evA st.tm o = .bool false) (h : aWp P nt y Q st) : aWp P nt (.cond o x y) Q st := aWp_cond hc h
/-- Temporaries that are none of W hold what they held; blocks whose names are below n are what they were. -/
def Agree (W : List Nat) (base tm : Nat → AV) : Prop := ∀ t, W.contains t = false → tm t = base t
def HAgree (n : Nat) (h0 h : AHeap) : Prop := ∀ m, m < n → h m = h0 m
theorem Agree.refl (W : List Nat) (base : Nat → AV) : Agree W base base := fun _ _ => rfl
theorem Agree.upd {W : List Nat} {base tm : Nat → AV} {d : Nat} {v : AV} (hd : W.contains d = true) (h : Agree W base tm) : Agree W base (upd tm d v) := fun t ht => by
  rw [upd_ne]
  · exact h t ht
  · rintro rfl
    rw [hd] at ht
    cases ht
theorem HAgree.refl (n : Nat) (h : AHeap) : HAgree n h h := fun _ _ => rfl
theorem HAgree.upd {n k : Nat} {h0 h : AHeap} {b : Option Blk} (hk : n ≤ k) (ha : HAgree n h0 h) : HAgree n h0 (upd h k b) := fun m hm => by
  rw [upd_ne _ _ _ (by omega)]
  exact ha m hm
theorem HAgree.trans {n n' : Nat} {a b c : AHeap} (h : HAgree n a b) (k : HAgree n' b c) (hn : n ≤ n') : HAgree n a c := fun m hm => by rw [k m (by omega), h m hm]
theorem HAgree.upd_r {n k : Nat} {h0 h : AHeap} {b : Option Blk} (hk : n ≤ k) (ha : HAgree n h0 h) : HAgree n (AE.upd h0 k b) h := fun m hm => by
  rw [upd_ne _ _ _ (by omega)]
  exact ha m hm
/-- A loop in whose rounds only temporaries of W and blocks from n0 on turn. -/
theorem W_loop {tm : Nat → AV} {h : AHeap} {k : Nat} {df : List ADef} (W : List Nat) (n0 : Nat) (I : Nat → (Nat → AV) → AHeap → Nat → Prop) (n : Nat) (hn0 : n0 ≤ k) (h0 : I n tm h k)
    (round : ∀ n tm' h' k', I n tm' h' k' → (∀ t, W.contains t = false → tm' t = tm t) → (∀ m, m < n0 → h' m = h m) → n0 ≤ k' →
      aWp P nt c (AX.andThen (fun s => ∃ m, m < n ∧ I m s.tm s.h s.nx ∧ Agree W tm s.tm ∧ HAgree n0 h s.h ∧ n0 ≤ s.nx ∧ s.df = df) Q) ⟨tm', h', k', df⟩) : aWp P nt (.loop c) Q ⟨tm, h, k, df⟩ := by
  refine aWp_loop (fun n s => I n s.tm s.h s.nx ∧ Agree W tm s.tm ∧ HAgree n0 h s.h ∧ n0 ≤ s.nx ∧ s.df = df) n ⟨h0, .refl _ _, .refl _ _, hn0, rfl⟩ ?_
  rintro n ⟨tm', h', k', df'⟩ ⟨h1, h2, h3, h4, h5⟩
  simp only at h5
  subst h5
  exact round n tm' h' k' h1 h2 h3 h4
/-- The end of a function that leaves memory as it was. -/
theorem W_end {fn : Func} {tm : Nat → AV} {h h0 : AHeap} {k nx : Nat} {v a : AV} {rs : List ResultVar} (hk : nx ≤ k) (hh : HAgree nx h0 h) (hrs : fn.results.toList = rs) (hr : resA P ⟨tm, h, k, []⟩ rs = some a) (hf : frzV nx h a = some v) : endQ P fn nx h0 v .ret ⟨tm, h, k, []⟩ :=
  ⟨rfl, hk, hh, a, by rw [hrs]; exact hr, hf⟩
end
theorem resA_tmp (P : Program) (s : St) (t : Nat) : resA P s [.tmp t] = some (s.tm t) := rfl
theorem resA_tmp2 (P : Program) (s : St) (t u : Nat) : resA P s [.tmp t, .tmp u] = some (.tup [s.tm t, s.tm u]) := rfl
theorem resA_tmp3 (P : Program) (s : St) (t u v : Nat) : resA P s [.tmp t, .tmp u, .tmp v] = some (.tup [s.tm t, s.tm u, s.tm v]) := rfl
theorem resA_none (P : Program) (s : St) : resA P s [] = some (.tup []) := rfl
theorem frz_tup (nx : Nat) (h : AHeap) (vs : List AV) : frzV nx h (.tup vs) = (frzM nx h vs).map .tup := rfl
theorem frz_nil (nx : Nat) (h : AHeap) : frzM nx h [] = some [] := rfl
theorem frz_cons (nx : Nat) (h : AHeap) (a : AV) (l : List AV) : frzM nx h (a :: l) = (frz2 nx h a).bind fun b => (frzM nx h l).map fun m => b :: m := rfl
theorem frz2_agg (nx : Nat) (h : AHeap) (cs : List AV) : frz2 nx h (.agg cs) = (frzL nx h cs).map .agg := rfl
theorem frzV_agg (nx : Nat) (h : AHeap) (cs : List AV) : frzV nx h (.agg cs) = (frzL nx h cs).map .agg := rfl
theorem frzL_nil (nx : Nat) (h : AHeap) : frzL nx h [] = some [] := rfl
theorem frzL_cons (nx : Nat) (h : AHeap) (a : AV) (l : List AV) : frzL nx h (a :: l) = (frz1 nx h a).bind fun b => (frzL nx h l).map fun m => b :: m := rfl
theorem frz1_hs (nx : Nat) (h : AHeap) (n off len : Nat) : frz1 nx h (.hs n off len) = if nx ≤ n then (h n).bind fun k => if off + len ≤ k.es.length then some (.sl ((k.es.drop off).take len)) else none else none := rfl
theorem frz2_hs (nx : Nat) (h : AHeap) (n off len : Nat) : frz2 nx h (.hs n off len) = frz1 nx h (.hs n off len) := rfl
theorem frzV_hs (nx : Nat) (h : AHeap) (n off len : Nat) : frzV nx h (.hs n off len) = frz1 nx h (.hs n off len) := rfl
/-- What a function answers, by rules. -/
def tupOf : List AV → AV
  | [v] => v
  | vs => .tup vs
def resC (P : Program) (h : AHeap) (t : TypeId) : AV → Option AV
  | .ptr n e j => aLoad P h t (.ptr n e j)
  | _ => none
theorem RES : (∀ (P : Program) (s : St) (rs : List ResultVar), resA P s rs = (resAll P s rs).map tupOf) ∧
    (∀ (P : Program) (s : St), resAll P s [] = some []) ∧
    (∀ (P : Program) (tm : Nat → AV) (h : AHeap) (k : Nat) (df : List ADef) (t : Nat) (rs : List ResultVar), resAll P ⟨tm, h, k, df⟩ (.tmp t :: rs) = (resAll P ⟨tm, h, k, df⟩ rs).map fun vs => tm t :: vs) ∧
    (∀ (P : Program) (tm : Nat → AV) (h : AHeap) (k : Nat) (df : List ADef) (a : Nat) (t : TypeId) (rs : List ResultVar), resAll P ⟨tm, h, k, df⟩ (.cell a t :: rs) = (resC P h t (tm a)).bind fun v => (resAll P ⟨tm, h, k, df⟩ rs).map fun vs => v :: vs) ∧
    (∀ (P : Program) (h : AHeap) (t : TypeId) (n e j : Nat), resC P h t (.ptr n e j) = (aPlace h (.ptr n e j)).bind (loadK (kT P t) (sizeT P t))) ∧
    (∀ v : AV, tupOf [v] = v) ∧ (tupOf [] = .tup []) ∧ (∀ (a b : AV) (l : List AV), tupOf (a :: b :: l) = .tup (a :: b :: l)) :=
  ⟨fun P s rs => by unfold resA; congr 1, fun P s => rfl, fun P tm h k df t rs => rfl, fun P tm h k df a t rs => by
    rw [resAll]
    simp only [resOne]
    cases tm a <;> rfl, fun P h t n e j => by rw [← aLoad_eq]; rfl, fun v => rfl, rfl, fun a b l => rfl⟩
theorem FZ : (∀ (nx : Nat) (h : AHeap) (b : Bool), frz1 nx h (.bool b) = some (.bool b)) ∧
    (∀ (nx : Nat) (h : AHeap) (b : Bool), frz2 nx h (.bool b) = some (.bool b)) ∧
    (∀ (nx : Nat) (h : AHeap) (b : Bool), frzV nx h (.bool b) = some (.bool b)) ∧
    (∀ (nx : Nat) (h : AHeap) (k : IntKind) (n : Int), frz1 nx h (.int k n) = some (.int k n)) ∧
    (∀ (nx : Nat) (h : AHeap) (k : IntKind) (n : Int), frz2 nx h (.int k n) = some (.int k n)) ∧
    (∀ (nx : Nat) (h : AHeap) (k : IntKind) (n : Int), frzV nx h (.int k n) = some (.int k n)) ∧
    (∀ (nx : Nat) (h : AHeap) (l : List Int), frz1 nx h (.str l) = some (.str l)) ∧
    (∀ (nx : Nat) (h : AHeap) (l : List Int), frz2 nx h (.str l) = some (.str l)) ∧
    (∀ (nx : Nat) (h : AHeap) (l : List Int), frzV nx h (.str l) = some (.str l)) ∧
    (∀ (nx : Nat) (h : AHeap) , frz1 nx h (.zs) = some (.sl [])) ∧
    (∀ (nx : Nat) (h : AHeap) , frz2 nx h (.zs) = some (.sl [])) ∧
    (∀ (nx : Nat) (h : AHeap) , frzV nx h (.zs) = some (.sl [])) ∧
    (∀ (nx : Nat) (h : AHeap) (es : List (List AV)), frz1 nx h (.sl es) = some (.sl es)) ∧
    (∀ (nx : Nat) (h : AHeap) (es : List (List AV)), frz2 nx h (.sl es) = some (.sl es)) ∧
    (∀ (nx : Nat) (h : AHeap) (es : List (List AV)), frzV nx h (.sl es) = some (.sl es)) ∧
    (∀ (nx : Nat) (h : AHeap) , frz1 nx h (.nilp) = some (.nilp)) ∧
    (∀ (nx : Nat) (h : AHeap) , frz2 nx h (.nilp) = some (.nilp)) ∧
    (∀ (nx : Nat) (h : AHeap) , frzV nx h (.nilp) = some (.nilp)) ∧
    (∀ (nx : Nat) (h : AHeap) , frz1 nx h (.niliface) = some (.niliface)) ∧
    (∀ (nx : Nat) (h : AHeap) , frz2 nx h (.niliface) = some (.niliface)) ∧
    (∀ (nx : Nat) (h : AHeap) , frzV nx h (.niliface) = some (.niliface)) ∧
    (∀ (nx : Nat) (h : AHeap) (t : TypeId) (v : AV), frz1 nx h (.iface t v) = some (.iface t v)) ∧
    (∀ (nx : Nat) (h : AHeap) (t : TypeId) (v : AV), frz2 nx h (.iface t v) = some (.iface t v)) ∧
    (∀ (nx : Nat) (h : AHeap) (t : TypeId) (v : AV), frzV nx h (.iface t v) = some (.iface t v)) :=
  ⟨(fun nx h b => rfl), (fun nx h b => rfl), (fun nx h b => rfl), (fun nx h k  n => rfl), (fun nx h k  n => rfl), (fun nx h k  n => rfl), (fun nx h l => rfl), (fun nx h l => rfl), (fun nx h l => rfl), (fun nx h => rfl), (fun nx h => rfl), (fun nx h => rfl), (fun nx h es => rfl), (fun nx h es => rfl), (fun nx h es => rfl), (fun nx h => rfl), (fun nx h => rfl), (fun nx h => rfl), (fun nx h => rfl), (fun nx h => rfl), (fun nx h => rfl), (fun nx h t  v => rfl), (fun nx h t  v => rfl), (fun nx h t  v => rfl)⟩
end Go.Proofs.Ytcnofpoffdjbpaa.AE
