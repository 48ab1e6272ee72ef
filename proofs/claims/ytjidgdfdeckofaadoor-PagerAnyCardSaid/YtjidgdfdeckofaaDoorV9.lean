/- Texts D4, G1, G2, G5. -/
import Derived.Test.YtjidgdfdeckofaaDoorV8
import Derived.Test.YtjidgdfdeckofaaDoorV5
/- Cuts with three bounds of a told row. -/
namespace Go.Proofs.YtjidgdfdeckofaaDoor.AE
open Go Go.RowKit Go.Proofs Go.Proofs.YtjidgdfdeckofaaDoor
set_option linter.unusedVariables false
set_option maxHeartbeats 1600000
section
variable {P : Program} {nt : Nat} {Q : AX → St → Prop} {ops : Array Oper} {rest : List Oper} {tm : Nat → AV} {h : AHeap} {k : Nat} {df : List ADef} {ty : TypeId} {pos : String} {after : Array Edge} {d : Nat}
theorem slice3_ok {B : Nat} {w : World} {σ : Sig} {X : Nat → Nat → Prop} {t e : TypeId} {n : Nat} {es : List (List AV)} {cx : Value} {l u m : Int} {kl ku km : IntKind} (hx : VR σ w X B (.sl es) cx) (hu : P.underlying t = some (.slice e)) (hn : sizeT P e = some n) (hall : es.all (fun c => c.length == n) = true) (hb : 0 ≤ l ∧ l ≤ u ∧ u ≤ m ∧ m ≤ es.length) :
    ∃ cv, (Instr.sliceAt t cx (some (.int kl l)) (some (.int ku u)) (some (.int km m))).run P w = .ok cv w ∧ VR σ w X B (.sl ((es.take u.toNat).drop l.toNat)) cv := by
  obtain ⟨q1, q2, q3, q4⟩ := hb
  cases hx with
  | sl _ a cap size vs hcap hbig g1 g2 =>
  have hbd : (Instr.sliceBounds true es.length cap (some (.int kl l)) (some (.int ku u)) (some (.int km m))).run P w = .ok (l.toNat, u.toNat, m.toNat) w := by
    have e1 : ((m.toNat : Nat) : Int) = m := by omega
    have e2 : ((u.toNat : Nat) : Int) = u := by omega
    have c1 : 0 ≤ m := by omega
    have c2 : m ≤ (cap : Int) := by omega
    have c3 : 0 ≤ u := by omega
    simp [Instr.sliceBounds, Instr.sliceBound, asIntOf, q1, q2, q3, e1, e2, c1, c2, c3]
  have hk : (Instr.sliceAt t (.slice a es.length cap) (some (.int kl l)) (some (.int ku u)) (some (.int km m))).run P w = .ok (.slice (if m.toNat = l.toNat then a else a.map (·.add (l.toNat * n))) (u.toNat - l.toNat) (m.toNat - l.toNat)) w := by
    simp [Instr.sliceAt, run_underlying hu, Instr.slice, hbd, run_sizeT hn]
  have hlen : ((es.take u.toNat).drop l.toNat).length = u.toNat - l.toNat := by simp; omega
  refine ⟨_, hk, ?_⟩
  rw [← hlen]
  have get : ∀ (i : Nat) (e : List AV), ((es.take u.toNat).drop l.toNat)[i]? = some e → es[l.toNat + i]? = some e := fun i e he => by
    rw [List.getElem?_drop, List.getElem?_take] at he
    split at he
    · exact he
    · cases he
  refine .sl _ _ _ n (fun i j => vs (l.toNat + i) j) (by rw [hlen]; omega) (by rw [hlen]; omega) (fun i e he => ?_) (fun i e he j c hc => g2 _ _ (get i e he) j c hc)
  obtain ⟨g3, ad, rfl, hsp, g4⟩ := g1 _ _ (get i e he)
  have hn' : e.length = n := by simpa using List.all_eq_true.1 hall e (List.mem_of_getElem? (get i e he))
  have hsz : size = n := by omega
  subst hsz
  have hi := (List.getElem?_eq_some_iff.1 he).1
  rw [hlen] at hi
  obtain ⟨b, o, sp⟩ := ad
  cases hsp
  rw [if_neg (by omega)]
  refine ⟨g3, ⟨b, o + l.toNat * size, none⟩, by simp [Addr.add_none], rfl, fun j c hc => ?_⟩
  obtain ⟨p1, p2, p3, p4⟩ := g4 j c hc
  have ee : o + (l.toNat + i) * size + j = o + l.toNat * size + i * size + j := by rw [Nat.add_mul]; omega
  rw [ee] at p3 p4
  exact ⟨p1, p2, p3, p4⟩
theorem VR.int_eq {σ : Sig} {w : World} {X : Nat → Nat → Prop} {B : Nat} {k : IntKind} {n : Int} {v : Value} (h : VR σ w X B (.int k n) v) : v = .int k n := by cases h; rfl
theorem s3_ [ρ : Rnd] {t e : TypeId} {x lo hi mx : Operand} {n : Nat} {es : List (List AV)} {l u m : Int} {kl ku km : IntKind} (hr : aOps P nt ops rest Q ⟨upd tm d (.sl ((es.take u.toNat).drop l.toNat)), h, k, df⟩) (hx : evA tm x = .sl es) (h1 : evA tm lo = .int kl l) (h2 : evA tm hi = .int ku u) (h3 : evA tm mx = .int km m)
    (hu : P.underlying t = some (.slice e)) (hn : sizeT P e = some n) (hall : es.all (fun c => c.length == n) = true) (hb : 0 ≤ l ∧ l ≤ u ∧ u ≤ m ∧ m ≤ es.length) (hd : decide (d < nt) = true := by rfl) :
    aOps P nt ops (⟨some d, .slice t x (some lo) (some hi) (some mx), ty, pos, after, none⟩ :: rest) Q ⟨tm, h, k, df⟩ := fun B w0 O σ act w hrl hk => by
  have hw := guardA_ok (ops := ops) (o := ⟨some d, .slice t x (some lo) (some hi) (some mx), ty, pos, after, none⟩) hrl.tr rfl
  have v0 := hrl.tr.eval x
  have v1 := hrl.tr.eval lo
  have v2 := hrl.tr.eval hi
  have v3 := hrl.tr.eval mx
  rw [hx] at v0
  rw [h1] at v1
  rw [h2] at v2
  rw [h3] at v3
  have e1 : act.eval lo = .int kl l := v1.int_eq
  have e2 : act.eval hi = .int ku u := v2.int_eq
  have e3 : act.eval mx = .int km m := v3.int_eq
  obtain ⟨cv, c1, c2⟩ := slice3_ok (kl := kl) (ku := ku) (km := km) v0 hu hn hall hb
  refine wpl_step hw (by intro c e; cases e) ?_
  have he : (execOp act.eval ⟨some d, .slice t x (some lo) (some hi) (some mx), ty, pos, after, none⟩).run P w = .ok (.value cv) w := by
    show ((do pure (.value (← Instr.sliceAt t (act.eval x) (some (act.eval lo)) (some (act.eval hi)) (some (act.eval mx)))) : Sem Next)).run P w = _
    rw [e1, e2, e3, Sem.run_bind, c1]
    rfl
  rw [he]
  show wpListIn fnc 0 P ops _ _ _ w
  exact hr B w0 O σ _ w (hrl.put hrl.sr .refl hrl.nx (some d) hd c2) hk
end
end Go.Proofs.YtjidgdfdeckofaaDoor.AE

/- Layer 1 and its page: Put. -/
namespace Go.Proofs.YtjidgdfdeckofaaDoor.AE
open Go Go.RowKit Go.Proofs Go.Proofs.YtjidgdfdeckofaaDoor
set_option linter.unusedVariables false
set_option linter.unusedSimpArgs false
set_option maxRecDepth 100000
set_option maxHeartbeats 4000000
theorem octets_Put (n size : Int) : aFun Tryd.prog 61 [.int .u64 n, .int .i64 size] (.tup [.sl (numB .u8 (Pl.putS n size).1), .int .i64 (Pl.putS n size).2]) := by
  by_cases h1 : size < 1
  · rw [show Pl.putS n size = ([], 1) from if_pos (.inl h1)]
    refine aFun_body Tryd.func61 rfl rfl (by simp [Tryd.ntmps61]) fun hreal h nx hfresh => ?_
    rw [Tryd.ntmps61]
    have hd : decide (size < 1) = true := decide_eq_true h1
    have FX := Fx.mk (@hd)
    repeat (first | refine v_ ?_ | refine u_ ?_ | refine nl_ ?_ | (refine nz_ ?_; first | (show aWp _ _ _ _ _) | skip) | refine sq_ ?_ | refine rg_ ?_ | refine k_ ?_ | refine ct_ ?_ | refine cf_ ?_ | refine bk_ ?_ | refine sc_ ?_ | (refine sk_ ?_; first | (show aWp _ _ _ _ _) | skip) | (refine ex_ ?_; first | (show aWp _ _ _ _ _) | skip) | refine rt_ ?_)
    (have FX := Fx0; exact end_ Tryd.results61)
  by_cases h2 : 8 < size
  · rw [show Pl.putS n size = ([], 1) from if_pos (.inr h2)]
    refine aFun_body Tryd.func61 rfl rfl (by simp [Tryd.ntmps61]) fun hreal h nx hfresh => ?_
    rw [Tryd.ntmps61]
    have hd : decide (size < 1) = false := decide_eq_false h1
    have hd2 : decide (8 < size) = true := decide_eq_true h2
    have FX := Fx.mk (And.intro @hd <| @hd2)
    repeat (first | refine v_ ?_ | refine u_ ?_ | refine nl_ ?_ | (refine nz_ ?_; first | (show aWp _ _ _ _ _) | skip) | refine sq_ ?_ | refine rg_ ?_ | refine k_ ?_ | refine ct_ ?_ | refine cf_ ?_ | refine bk_ ?_ | refine sc_ ?_ | (refine sk_ ?_; first | (show aWp _ _ _ _ _) | skip) | (refine ex_ ?_; first | (show aWp _ _ _ _ _) | skip) | refine rt_ ?_)
    (have FX := Fx0; exact end_ Tryd.results61)
  obtain ⟨k, rfl⟩ : ∃ k : Nat, size = (k : Int) := ⟨size.toNat, by omega⟩
  have hk : 1 ≤ k ∧ k ≤ 8 := by omega
  have hd : decide ((k : Int) < 1) = false := decide_eq_false h1
  have hd2 : decide (8 < (k : Int)) = false := decide_eq_false h2
  have hw8 : IntKind.i64.wrap (8 * (k : Int)) = 8 * (k : Int) := by rw [wrapI] <;> omega
  have hsh := fun n : Int => shrU64 (n := n) hk.2
  have hr := fun (hreal : ∀ a ∈ [AV.int .u64 n, AV.int .i64 (k : Int)], Real a) => inU64 ((hreal (.int .u64 n) (by simp)).int)
  by_cases h3 : 256 ^ k ≤ n
  · rw [show Pl.putS n k = ([], 4) by unfold Pl.putS; rw [if_neg (by omega), if_pos (by simpa using h3)]]
    refine aFun_body Tryd.func61 rfl rfl (by simp [Tryd.ntmps61]) fun hreal h nx hfresh => ?_
    rw [Tryd.ntmps61]
    have hn := hr hreal
    have h4 : k < 8 := by
      rcases Nat.lt_or_ge k 8 with q | q
      · exact q
      · obtain rfl : k = 8 := by omega
        omega
    have hd3 : decide ((k : Int) < 8) = true := decide_eq_true (by omega)
    have hd4 : decide (n / 256 ^ k = 0) = false := decide_eq_false (by
      have h5 : (0 : Int) < 256 ^ k := Int.pow_pos (by decide)
      have h6 : 1 ≤ n / 256 ^ k := (Int.le_ediv_iff_mul_le h5).2 (by omega)
      omega)
    have FX := Fx.mk (And.intro @hd <| And.intro @hd2 <| And.intro @hw8 <| And.intro @hsh <| And.intro @hd3 <| And.intro @hd4 <| @Bool.not_false)
    repeat (first | refine v_ ?_ | refine u_ ?_ | refine nl_ ?_ | (refine nz_ ?_; first | (show aWp _ _ _ _ _) | skip) | refine sq_ ?_ | refine rg_ ?_ | refine k_ ?_ | refine ct_ ?_ | refine cf_ ?_ | refine bk_ ?_ | refine sc_ ?_ | (refine sk_ ?_; first | (show aWp _ _ _ _ _) | skip) | (refine ex_ ?_; first | (show aWp _ _ _ _ _) | skip) | refine rt_ ?_)
    (have FX := Fx0; exact end_ Tryd.results61)
  rw [show Pl.putS n k = (Pl.putI k n, 0) by unfold Pl.putS; rw [if_neg (by omega), if_neg (by simpa using h3)]; simp]
  refine aFun_body Tryd.func61 rfl rfl (by simp [Tryd.ntmps61]) fun hreal h nx hfresh => ?_
  rw [Tryd.ntmps61]
  have hn := hr hreal
  have hd4 : decide (n / 256 ^ k = 0) = true := decide_eq_true (Int.ediv_eq_zero_of_lt (by omega) (by omega))
  have hlen : (0 : Int) ≤ k := by omega
  have put0 : ∀ i : Nat, i < k → (Pl.putI i n ++ List.replicate (k - i) 0)[i]? = some 0 := fun i hi => by
    rw [List.getElem?_append_right (by simp [Pl.putI_length]), Pl.putI_length, Nat.sub_self, List.getElem?_replicate, if_pos (by omega)]
  have put1 : ∀ i : Nat, i < k → (Pl.putI i n ++ List.replicate (k - i) 0).set i (n / 256 ^ i % 256) = Pl.putI (i + 1) n ++ List.replicate (k - (i + 1)) 0 := fun i hi => by
    rw [List.set_append_right _ _ (by simp [Pl.putI_length]), Pl.putI_length, Nat.sub_self, Pl.putI_snoc i n hn.1, List.append_assoc, show k - i = (k - (i + 1)) + 1 by omega, List.replicate_succ]
    rfl
  by_cases h4 : k < 8
  · have hd3 : decide ((k : Int) < 8) = true := decide_eq_true (by omega)
    have FX := Fx.mk (And.intro @hd <| And.intro @hd2 <| And.intro @hw8 <| And.intro @hsh <| And.intro @hd3 <| And.intro @hd4 <| @Bool.not_true)
    repeat (first | refine v_ ?_ | refine u_ ?_ | refine nl_ ?_ | (refine nz_ ?_; first | (show aWp _ _ _ _ _) | skip) | refine sq_ ?_ | refine rg_ ?_ | refine k_ ?_ | refine ct_ ?_ | refine cf_ ?_ | refine bk_ ?_ | refine sc_ ?_ | (refine sk_ ?_; first | (show aWp _ _ _ _ _) | skip) | (refine ex_ ?_; first | (show aWp _ _ _ _ _) | skip) | refine rt_ ?_)
    refine W_loopK [0, 6, 26] nx (fun r tm h _ => ∃ i : Nat, i ≤ k ∧ r = k - i ∧ tm 27 = .int .i64 i ∧ h nx = some ⟨1, numB .u8 (Pl.putI i n ++ List.replicate (k - i) 0)⟩) k (by omega) ⟨0, Nat.zero_le _, rfl, rfl, by (have FX := Fx0; exact cl_)⟩ ?_
    rintro r tm' h' k' ⟨i, hi, rfl, h27, hm⟩ hag hh hk'
    by_cases hlt : i < k
    · have hd : decide ((i : Int) < (k : Int)) = true := decide_eq_true (by omega)
      have hw : IntKind.i64.wrap (i + 1) = ((i + 1 : Nat) : Int) := by rw [wrapI] <;> omega
      have hw8 : IntKind.i64.wrap (8 * (i : Int)) = 8 * (i : Int) := by rw [wrapI] <;> omega
      have hsh := shrU64 (n := n) (k := i) (by omega)
      have p0 := put0 i hlt
      have p1 := put1 i hlt
      have FX := Fx.mk (And.intro @hag <| And.intro @h27 <| And.intro @hm <| And.intro @hh <| And.intro @hd <| And.intro @hw <| And.intro @hw8 <| And.intro @hsh <| And.intro @wrapB_mod <| And.intro @p0 <| @p1)
      repeat (first | refine v_ ?_ | refine u_ ?_ | refine nl_ ?_ | (refine nz_ ?_; first | (show aWp _ _ _ _ _) | skip) | refine sq_ ?_ | refine rg_ ?_ | refine k_ ?_ | refine ct_ ?_ | refine cf_ ?_ | refine bk_ ?_ | refine sc_ ?_ | (refine sk_ ?_; first | (show aWp _ _ _ _ _) | skip) | (refine ex_ ?_; first | (show aWp _ _ _ _ _) | skip) | refine rt_ ?_)
      refine ⟨k - (i + 1), by omega, ⟨i + 1, by omega, rfl, ?_, ?_⟩, ?_, ?_, by simp only; omega, rfl⟩
      · (have FX := Fx0; exact cl_)
      · (have FX := Fx0; exact cl_)
      · repeat (refine KAgree.upd rfl ?_)
        first | exact KAgree.refl _ _ | exact hag
      · exact (by have FX := Fx.mk (@hh); exact ha_)
    · obtain rfl : i = k := by omega
      have hd : decide ((i : Int) < (i : Int)) = false := by simp
      rw [Nat.sub_self, List.replicate_zero, List.append_nil] at hm
      have FX := Fx.mk (And.intro @hag <| And.intro @h27 <| And.intro @hm <| And.intro @hh <| And.intro @hd <| @Pl.putI_length)
      repeat (first | refine v_ ?_ | refine u_ ?_ | refine nl_ ?_ | (refine nz_ ?_; first | (show aWp _ _ _ _ _) | skip) | refine sq_ ?_ | refine rg_ ?_ | refine k_ ?_ | refine ct_ ?_ | refine cf_ ?_ | refine bk_ ?_ | refine sc_ ?_ | (refine sk_ ?_; first | (show aWp _ _ _ _ _) | skip) | (refine ex_ ?_; first | (show aWp _ _ _ _ _) | skip) | refine rt_ ?_)
      (have FX := Fx.mk (And.intro @hag <| And.intro @hm <| And.intro @hh <| And.intro @Pl.putI_length <| @putI_take); exact end_ Tryd.results61)
  · have hd3 : decide ((k : Int) < 8) = false := decide_eq_false (by omega)
    have FX := Fx.mk (And.intro @hd <| And.intro @hd2 <| And.intro @hw8 <| And.intro @hsh <| And.intro @hd3 <| And.intro @hd4 <| @Bool.not_true)
    repeat (first | refine v_ ?_ | refine u_ ?_ | refine nl_ ?_ | (refine nz_ ?_; first | (show aWp _ _ _ _ _) | skip) | refine sq_ ?_ | refine rg_ ?_ | refine k_ ?_ | refine ct_ ?_ | refine cf_ ?_ | refine bk_ ?_ | refine sc_ ?_ | (refine sk_ ?_; first | (show aWp _ _ _ _ _) | skip) | (refine ex_ ?_; first | (show aWp _ _ _ _ _) | skip) | refine rt_ ?_)
    refine W_loopK [0, 6, 26] nx (fun r tm h _ => ∃ i : Nat, i ≤ k ∧ r = k - i ∧ tm 27 = .int .i64 i ∧ h nx = some ⟨1, numB .u8 (Pl.putI i n ++ List.replicate (k - i) 0)⟩) k (by omega) ⟨0, Nat.zero_le _, rfl, rfl, by (have FX := Fx0; exact cl_)⟩ ?_
    rintro r tm' h' k' ⟨i, hi, rfl, h27, hm⟩ hag hh hk'
    by_cases hlt : i < k
    · have hd : decide ((i : Int) < (k : Int)) = true := decide_eq_true (by omega)
      have hw : IntKind.i64.wrap (i + 1) = ((i + 1 : Nat) : Int) := by rw [wrapI] <;> omega
      have hw8 : IntKind.i64.wrap (8 * (i : Int)) = 8 * (i : Int) := by rw [wrapI] <;> omega
      have hsh := shrU64 (n := n) (k := i) (by omega)
      have p0 := put0 i hlt
      have p1 := put1 i hlt
      have FX := Fx.mk (And.intro @hag <| And.intro @h27 <| And.intro @hm <| And.intro @hh <| And.intro @hd <| And.intro @hw <| And.intro @hw8 <| And.intro @hsh <| And.intro @wrapB_mod <| And.intro @p0 <| @p1)
      repeat (first | refine v_ ?_ | refine u_ ?_ | refine nl_ ?_ | (refine nz_ ?_; first | (show aWp _ _ _ _ _) | skip) | refine sq_ ?_ | refine rg_ ?_ | refine k_ ?_ | refine ct_ ?_ | refine cf_ ?_ | refine bk_ ?_ | refine sc_ ?_ | (refine sk_ ?_; first | (show aWp _ _ _ _ _) | skip) | (refine ex_ ?_; first | (show aWp _ _ _ _ _) | skip) | refine rt_ ?_)
      refine ⟨k - (i + 1), by omega, ⟨i + 1, by omega, rfl, ?_, ?_⟩, ?_, ?_, by simp only; omega, rfl⟩
      · (have FX := Fx0; exact cl_)
      · (have FX := Fx0; exact cl_)
      · repeat (refine KAgree.upd rfl ?_)
        first | exact KAgree.refl _ _ | exact hag
      · exact (by have FX := Fx.mk (@hh); exact ha_)
    · obtain rfl : i = k := by omega
      have hd : decide ((i : Int) < (i : Int)) = false := by simp
      rw [Nat.sub_self, List.replicate_zero, List.append_nil] at hm
      have FX := Fx.mk (And.intro @hag <| And.intro @h27 <| And.intro @hm <| And.intro @hh <| And.intro @hd <| @Pl.putI_length)
      repeat (first | refine v_ ?_ | refine u_ ?_ | refine nl_ ?_ | (refine nz_ ?_; first | (show aWp _ _ _ _ _) | skip) | refine sq_ ?_ | refine rg_ ?_ | refine k_ ?_ | refine ct_ ?_ | refine cf_ ?_ | refine bk_ ?_ | refine sc_ ?_ | (refine sk_ ?_; first | (show aWp _ _ _ _ _) | skip) | (refine ex_ ?_; first | (show aWp _ _ _ _ _) | skip) | refine rt_ ?_)
      (have FX := Fx.mk (And.intro @hag <| And.intro @hm <| And.intro @hh <| And.intro @Pl.putI_length <| @putI_take); exact end_ Tryd.results61)
end Go.Proofs.YtjidgdfdeckofaaDoor.AE

/- Layer 1: Get. -/
namespace Go.Proofs.YtjidgdfdeckofaaDoor.AE
open Go Go.RowKit Go.Proofs Go.Proofs.YtjidgdfdeckofaaDoor
set_option linter.unusedVariables false
set_option linter.unusedSimpArgs false
set_option maxRecDepth 100000
set_option maxHeartbeats 4000000
theorem octets_Get (l : List Int) (at_ size : Int) : aFun Tryd.prog 68 [.sl (numB .u8 l), .int .i64 at_, .int .i64 size] (.tup [.int .u64 (Pl.getS l at_ size).1, .int .i64 (Pl.getS l at_ size).2]) := by
  by_cases h1 : size < 1
  · rw [show Pl.getS l at_ size = (0, 1) from if_pos (.inl h1)]
    refine aFun_body Tryd.func68 rfl rfl (by simp [Tryd.ntmps68]) fun hreal h nx hfresh => ?_
    rw [Tryd.ntmps68]
    have hd : decide (size < 1) = true := decide_eq_true h1
    have FX := Fx.mk (@hd)
    repeat (first | refine v_ ?_ | refine u_ ?_ | refine nl_ ?_ | (refine nz_ ?_; first | (show aWp _ _ _ _ _) | skip) | refine sq_ ?_ | refine rg_ ?_ | refine k_ ?_ | refine ct_ ?_ | refine cf_ ?_ | refine bk_ ?_ | refine sc_ ?_ | (refine sk_ ?_; first | (show aWp _ _ _ _ _) | skip) | (refine ex_ ?_; first | (show aWp _ _ _ _ _) | skip) | refine rt_ ?_)
    (have FX := Fx0; exact end_ Tryd.results68)
  have hd : decide (size < 1) = false := decide_eq_false h1
  by_cases h2 : 8 < size
  · rw [show Pl.getS l at_ size = (0, 1) from if_pos (.inr h2)]
    refine aFun_body Tryd.func68 rfl rfl (by simp [Tryd.ntmps68]) fun hreal h nx hfresh => ?_
    rw [Tryd.ntmps68]
    have hd2 : decide (8 < size) = true := decide_eq_true h2
    have FX := Fx.mk (And.intro @hd <| @hd2)
    repeat (first | refine v_ ?_ | refine u_ ?_ | refine nl_ ?_ | (refine nz_ ?_; first | (show aWp _ _ _ _ _) | skip) | refine sq_ ?_ | refine rg_ ?_ | refine k_ ?_ | refine ct_ ?_ | refine cf_ ?_ | refine bk_ ?_ | refine sc_ ?_ | (refine sk_ ?_; first | (show aWp _ _ _ _ _) | skip) | (refine ex_ ?_; first | (show aWp _ _ _ _ _) | skip) | refine rt_ ?_)
    (have FX := Fx0; exact end_ Tryd.results68)
  have hd2 : decide (8 < size) = false := decide_eq_false h2
  by_cases h3 : at_ < 0
  · rw [show Pl.getS l at_ size = (0, 4) by unfold Pl.getS; rw [if_neg (by omega), if_pos h3]]
    refine aFun_body Tryd.func68 rfl rfl (by simp [Tryd.ntmps68]) fun hreal h nx hfresh => ?_
    rw [Tryd.ntmps68]
    have hd3 : decide (at_ < 0) = true := decide_eq_true h3
    have FX := Fx.mk (And.intro @hd <| And.intro @hd2 <| @hd3)
    repeat (first | refine v_ ?_ | refine u_ ?_ | refine nl_ ?_ | (refine nz_ ?_; first | (show aWp _ _ _ _ _) | skip) | refine sq_ ?_ | refine rg_ ?_ | refine k_ ?_ | refine ct_ ?_ | refine cf_ ?_ | refine bk_ ?_ | refine sc_ ?_ | (refine sk_ ?_; first | (show aWp _ _ _ _ _) | skip) | (refine ex_ ?_; first | (show aWp _ _ _ _ _) | skip) | refine rt_ ?_)
    (have FX := Fx0; exact end_ Tryd.results68)
  have hd3 : decide (at_ < 0) = false := decide_eq_false h3
  by_cases h4 : (l.length : Int) < at_
  · rw [show Pl.getS l at_ size = (0, 8) by unfold Pl.getS; rw [if_neg (by omega), if_neg h3, if_pos (.inl h4)]]
    refine aFun_body Tryd.func68 rfl rfl (by simp [Tryd.ntmps68]) fun hreal h nx hfresh => ?_
    rw [Tryd.ntmps68]
    have hd4 : decide ((l.length : Int) < at_) = true := decide_eq_true h4
    have FX := Fx.mk (And.intro @hd <| And.intro @hd2 <| And.intro @hd3 <| @hd4)
    repeat (first | refine v_ ?_ | refine u_ ?_ | refine nl_ ?_ | (refine nz_ ?_; first | (show aWp _ _ _ _ _) | skip) | refine sq_ ?_ | refine rg_ ?_ | refine k_ ?_ | refine ct_ ?_ | refine cf_ ?_ | refine bk_ ?_ | refine sc_ ?_ | (refine sk_ ?_; first | (show aWp _ _ _ _ _) | skip) | (refine ex_ ?_; first | (show aWp _ _ _ _ _) | skip) | refine rt_ ?_)
    (have FX := Fx0; exact end_ Tryd.results68)
  have hd4 : decide ((l.length : Int) < at_) = false := decide_eq_false h4
  by_cases h5 : (l.length : Int) - at_ < size
  · rw [show Pl.getS l at_ size = (0, 8) by unfold Pl.getS; rw [if_neg (by omega), if_neg h3, if_pos (.inr h5)]]
    refine aFun_body Tryd.func68 rfl rfl (by simp [Tryd.ntmps68]) fun hreal h nx hfresh => ?_
    rw [Tryd.ntmps68]
    have hl := (hreal (.sl (numB .u8 l)) (by simp)).num.1
    have hw : IntKind.i64.wrap ((l.length : Int) - at_) = (l.length : Int) - at_ := by rw [wrapI] <;> omega
    have hd5 : decide ((l.length : Int) - at_ < size) = true := decide_eq_true h5
    have FX := Fx.mk (And.intro @hd <| And.intro @hd2 <| And.intro @hd3 <| And.intro @hd4 <| And.intro @hd5 <| @hw)
    repeat (first | refine v_ ?_ | refine u_ ?_ | refine nl_ ?_ | (refine nz_ ?_; first | (show aWp _ _ _ _ _) | skip) | refine sq_ ?_ | refine rg_ ?_ | refine k_ ?_ | refine ct_ ?_ | refine cf_ ?_ | refine bk_ ?_ | refine sc_ ?_ | (refine sk_ ?_; first | (show aWp _ _ _ _ _) | skip) | (refine ex_ ?_; first | (show aWp _ _ _ _ _) | skip) | refine rt_ ?_)
    (have FX := Fx0; exact end_ Tryd.results68)
  rw [show Pl.getS l at_ size = (Pl.leI ((l.drop at_.toNat).take size.toNat), 0) by unfold Pl.getS; rw [if_neg (by omega), if_neg h3, if_neg (by omega)]]
  obtain ⟨a, rfl⟩ : ∃ a : Nat, at_ = (a : Int) := ⟨at_.toNat, by omega⟩
  obtain ⟨k, rfl⟩ : ∃ k : Nat, size = (k : Int) := ⟨size.toNat, by omega⟩
  simp only [Int.toNat_natCast]
  refine aFun_body Tryd.func68 rfl rfl (by simp [Tryd.ntmps68]) fun hreal h nx hfresh => ?_
  rw [Tryd.ntmps68]
  have hl := (hreal (.sl (numB .u8 l)) (by simp)).num.1
  have hby := (hreal (.sl (numB .u8 l)) (by simp)).BY
  have hw : IntKind.i64.wrap ((l.length : Int) - (a : Int)) = (l.length : Int) - a := by rw [wrapI] <;> omega
  have hd5 : decide ((l.length : Int) - (a : Int) < (k : Int)) = false := decide_eq_false h5
  have hw2 : IntKind.i64.wrap ((a : Int) + (k : Int)) = ((a + k : Nat) : Int) := by rw [wrapI] <;> omega
  have hlo : (a : Int) ≤ ((a + k : Nat) : Int) := by omega
  have hhi : ((a + k : Nat) : Int) ≤ (l.length : Int) := by omega
  have hm : (l.take (a + k)).drop a = (l.drop a).take k := by rw [List.drop_take, Nat.add_sub_cancel_left]
  have hml : ((l.drop a).take k).length = k := by simp; omega
  have FX := Fx.mk (And.intro @hd <| And.intro @hd2 <| And.intro @hd3 <| And.intro @hd4 <| And.intro @hd5 <| And.intro @hw <| And.intro @hw2 <| And.intro @hlo <| And.intro @hhi <| And.intro @hm <| @hml)
  repeat (first | refine v_ ?_ | refine u_ ?_ | refine nl_ ?_ | (refine nz_ ?_; first | (show aWp _ _ _ _ _) | skip) | refine sq_ ?_ | refine rg_ ?_ | refine k_ ?_ | refine ct_ ?_ | refine cf_ ?_ | refine bk_ ?_ | refine sc_ ?_ | (refine sk_ ?_; first | (show aWp _ _ _ _ _) | skip) | (refine ex_ ?_; first | (show aWp _ _ _ _ _) | skip) | refine rt_ ?_)
  have hby2 : Pl.BY ((l.drop a).take k) := Pl.BY_take (Pl.BY_drop hby a) k
  generalize (l.drop a).take k = m at hml hby2 ⊢
  refine W_loopK [38, 39, 7] nx (fun r tm h _ => ∃ i : Nat, i ≤ k ∧ r = k - i ∧ tm 40 = .int .i64 i ∧ tm 6 = .int .u64 (Pl.leI (m.take i))) k (by omega) ⟨0, Nat.zero_le _, rfl, rfl, by (have FX := Fx.mk (@Pl.leI_nil); exact cl_)⟩ ?_
  rintro r tm' h' k' ⟨i, hi, rfl, h40, h6⟩ hag hh hk'
  by_cases hlt : i < k
  · have hd : decide ((i : Int) < (k : Int)) = true := decide_eq_true (by omega)
    have hw : IntKind.i64.wrap (i + 1) = ((i + 1 : Nat) : Int) := by rw [wrapI] <;> omega
    have hw8 : IntKind.i64.wrap (8 * (i : Int)) = 8 * (i : Int) := by rw [wrapI] <;> omega
    obtain ⟨c, hc⟩ : ∃ c, m[i]? = some c := ⟨m[i]'(by omega), List.getElem?_eq_getElem _⟩
    have hcr := hby2 c (List.mem_of_getElem? hc)
    have hw9 : IntKind.u64.wrap c = c := by rw [wrapU] <;> omega
    have hsl : IntKind.u64.wrap (c * 2 ^ (min (8 * (i : Int)).toNat IntKind.u64.bits)) = c * 256 ^ i := by
      rw [show min (8 * (i : Int)).toNat IntKind.u64.bits = 8 * i by simp [IntKind.bits]; omega]
      exact Pl.wrap_shl c i (by omega) hcr
    have hti : m.take (i + 1) = m.take i ++ [c] := by rw [List.take_add_one, hc]; rfl
    have hlen : (m.take i).length = i := by simp; omega
    have hlt2 := Pl.leI_lt (m.take i)
    rw [hlen] at hlt2
    have hor := Pl.or_shl (Pl.leI (m.take i)) c i (by omega) (Pl.leI_nonneg _) hlt2 hcr
    have hle : Pl.leI (m.take (i + 1)) = Pl.leI (m.take i) + c * 256 ^ i := by rw [hti, Pl.leI_snoc _ _ hcr, hlen]
    have FX := Fx.mk (And.intro @hag <| And.intro @h40 <| And.intro @h6 <| And.intro @hh <| And.intro @hd <| And.intro @hw <| And.intro @hw8 <| And.intro @hc <| And.intro @hw9 <| And.intro @hsl <| @hor)
    repeat (first | refine v_ ?_ | refine u_ ?_ | refine nl_ ?_ | (refine nz_ ?_; first | (show aWp _ _ _ _ _) | skip) | refine sq_ ?_ | refine rg_ ?_ | refine k_ ?_ | refine ct_ ?_ | refine cf_ ?_ | refine bk_ ?_ | refine sc_ ?_ | (refine sk_ ?_; first | (show aWp _ _ _ _ _) | skip) | (refine ex_ ?_; first | (show aWp _ _ _ _ _) | skip) | refine rt_ ?_)
    refine ⟨k - (i + 1), by omega, ⟨i + 1, by omega, rfl, ?_, ?_⟩, ?_, ?_, by simp only; omega, rfl⟩
    · (have FX := Fx0; exact cl_)
    · (have FX := Fx.mk (@hle); exact cl_)
    · repeat (refine KAgree.upd rfl ?_)
      first | exact KAgree.refl _ _ | exact hag
    · exact (by have FX := Fx.mk (@hh); exact ha_)
  · obtain rfl : i = k := by omega
    have hd : decide ((i : Int) < (i : Int)) = false := by simp
    rw [List.take_of_length_le (by omega)] at h6
    have FX := Fx.mk (And.intro @hag <| And.intro @h40 <| And.intro @h6 <| And.intro @hh <| @hd)
    repeat (first | refine v_ ?_ | refine u_ ?_ | refine nl_ ?_ | (refine nz_ ?_; first | (show aWp _ _ _ _ _) | skip) | refine sq_ ?_ | refine rg_ ?_ | refine k_ ?_ | refine ct_ ?_ | refine cf_ ?_ | refine bk_ ?_ | refine sc_ ?_ | (refine sk_ ?_; first | (show aWp _ _ _ _ _) | skip) | (refine ex_ ?_; first | (show aWp _ _ _ _ _) | skip) | refine rt_ ?_)
    (have FX := Fx.mk (And.intro @hag <| And.intro @h6 <| @hh); exact end_ Tryd.results68)
end Go.Proofs.YtjidgdfdeckofaaDoor.AE

/- Layer 2: the table, the sum. -/
namespace Go.Proofs.YtjidgdfdeckofaaDoor.AE
open Go Go.RowKit Go.Proofs Go.Proofs.YtjidgdfdeckofaaDoor
set_option linter.unusedVariables false
set_option linter.unusedSimpArgs false
set_option maxRecDepth 100000
set_option maxHeartbeats 4000000
def tabC (i : Nat) : List AV := (List.range 16).map fun j => AV.int .u32 (if j < i then Pl.tabI j else 0)
theorem tabC_len (i : Nat) : (tabC i).length = 16 := by simp [tabC]
theorem tabC_step (i : Nat) (hi : i < 16) : (tabC i).take i ++ [AV.int .u32 (Pl.tabI i)] ++ (tabC i).drop (i + 1) = tabC (i + 1) := by
  apply List.ext_getElem?
  intro j
  by_cases h1 : j < i
  · rw [List.append_assoc, List.getElem?_append_left (by simp [tabC_len]; omega), List.getElem?_take, if_pos h1]
    simp only [tabC, List.getElem?_map]
    cases hr : (List.range 16)[j]? with
    | none => rfl
    | some q =>
      obtain ⟨hq, rfl⟩ := List.getElem?_eq_some_iff.1 hr
      simp at hq ⊢
      rw [if_pos h1, if_pos (by omega)]
  · by_cases h2 : j = i
    · subst h2
      rw [List.append_assoc, List.getElem?_append_right (by simp [tabC_len]; omega)]
      simp [tabC_len, tabC, show min j 16 = j by omega, List.getElem?_range hi]
    · rw [List.getElem?_append_right (by simp [tabC_len]; omega), List.getElem?_drop]
      simp only [List.length_append, List.length_take, tabC_len, List.length_singleton]
      rw [show i + 1 + (j - (min i 16 + 1)) = j by omega]
      simp only [tabC, List.getElem?_map]
      cases hr : (List.range 16)[j]? with
      | none => rfl
      | some q =>
        obtain ⟨hq, rfl⟩ := List.getElem?_eq_some_iff.1 hr
        simp at hq ⊢
        rw [if_neg h1, if_neg (by omega)]
theorem crc_half : aFun Tryd.prog 100 [] (.agg (tabC 16)) := by
  refine aFun_body Tryd.func100 rfl rfl (by simp [Tryd.ntmps100]) fun hreal h nx hfresh => ?_
  rw [Tryd.ntmps100]
  have FX := Fx0
  repeat (first | refine v_ ?_ | refine u_ ?_ | refine nl_ ?_ | (refine nz_ ?_; first | (show aWp _ _ _ _ _) | skip) | refine sq_ ?_ | refine rg_ ?_ | refine k_ ?_ | refine ct_ ?_ | refine cf_ ?_ | refine bk_ ?_ | refine sc_ ?_ | (refine sk_ ?_; first | (show aWp _ _ _ _ _) | skip) | (refine ex_ ?_; first | (show aWp _ _ _ _ _) | skip) | refine rt_ ?_)
  refine W_loopK [0] nx (fun r tm h q => ∃ i : Nat, nx < q ∧ i ≤ 16 ∧ r = 16 - i ∧ tm 3 = .int .i64 i ∧ h nx = some ⟨16, [tabC i]⟩) 16 (by omega) ⟨0, by omega, by omega, rfl, rfl, by (have FX := Fx0; exact cl_)⟩ ?_
  rintro r tm' h' k' ⟨i, hk'', hi, rfl, h3, hm⟩ hag hh hk'
  by_cases hlt : i < 16
  · have hd : decide ((i : Int) < 16) = true := decide_eq_true (by omega)
    have hw : IntKind.i64.wrap (i + 1) = ((i + 1 : Nat) : Int) := by rw [wrapI] <;> omega
    have hr : Pl.rI (BitVec.ofNat 32 i) = (i : Int) := by simp [Pl.rI]; omega
    have hw3 : IntKind.u32.wrap (i : Int) = Pl.rI (Fs.stN 0 (BitVec.ofNat 32 i)) := by rw [Pl.u32w (by omega) (by omega)]; exact hr.symm
    have FX := Fx.mk (And.intro @hag <| And.intro @h3 <| And.intro @hm <| And.intro @hh <| And.intro @hd <| And.intro @hw <| @hw3)
    repeat (first | refine v_ ?_ | refine u_ ?_ | refine nl_ ?_ | (refine nz_ ?_; first | (show aWp _ _ _ _ _) | skip) | refine sq_ ?_ | refine rg_ ?_ | refine k_ ?_ | refine ct_ ?_ | refine cf_ ?_ | refine bk_ ?_ | refine sc_ ?_ | (refine sk_ ?_; first | (show aWp _ _ _ _ _) | skip) | (refine ex_ ?_; first | (show aWp _ _ _ _ _) | skip) | refine rt_ ?_)
    refine W_loopK [0, 1, 3] k' (fun r tm h _ => ∃ j : Nat, j ≤ 4 ∧ r = 4 - j ∧ tm 8 = .int .i64 j ∧ tm 2 = .int .u32 (Pl.rI (Fs.stN j (BitVec.ofNat 32 i)))) 4 (by omega) ⟨0, by omega, rfl, rfl, by (have FX := Fx0; exact cl_)⟩ ?_
    rintro r tm2 h2 k2 ⟨j, hj, rfl, h8, h2'⟩ hag2 hh2 hk2
    by_cases hlt2 : j < 4
    · have hd2 : decide ((j : Int) < 4) = true := decide_eq_true (by omega)
      have hw2 : IntKind.i64.wrap (j + 1) = ((j + 1 : Nat) : Int) := by rw [wrapI] <;> omega
      have hst := Pl.st_walk (Fs.stN j (BitVec.ofNat 32 i))
      rw [← Pl.stN_succ] at hst
      generalize Fs.stN j (BitVec.ofNat 32 i) = c at hst h2'
      have hsh : (Pl.rI c).fdiv (2 ^ (min 1 IntKind.u32.bits)) = Pl.rI c / 2 := Int.fdiv_eq_ediv_of_nonneg _ (by decide)
      have hng : ∀ x : Int, IntKind.u32.wrap (0 - x) = -x % 4294967296 := fun x => by simp [IntKind.wrap, IntKind.signed, IntKind.bits]
      have FX := Fx.mk (And.intro @hag2 <| And.intro @h8 <| And.intro @h2' <| And.intro @hh2 <| And.intro @hd2 <| And.intro @hw2 <| And.intro @hst <| And.intro @hsh <| @hng)
      repeat (first | refine v_ ?_ | refine u_ ?_ | refine nl_ ?_ | (refine nz_ ?_; first | (show aWp _ _ _ _ _) | skip) | refine sq_ ?_ | refine rg_ ?_ | refine k_ ?_ | refine ct_ ?_ | refine cf_ ?_ | refine bk_ ?_ | refine sc_ ?_ | (refine sk_ ?_; first | (show aWp _ _ _ _ _) | skip) | (refine ex_ ?_; first | (show aWp _ _ _ _ _) | skip) | refine rt_ ?_)
      refine ⟨4 - (j + 1), by omega, ⟨j + 1, by omega, rfl, ?_, ?_⟩, ?_, ?_, by simp only; omega, rfl⟩
      · (have FX := Fx0; exact cl_)
      · (have FX := Fx0; exact cl_)
      · repeat (refine KAgree.upd rfl ?_)
        exact hag2
      · exact (by have FX := Fx.mk (@hh2); exact ha_)
    · obtain rfl : j = 4 := by omega
      have hd2 : decide (((4 : Nat) : Int) < 4) = false := by decide
      have hm2 : h2 nx = some ⟨16, [tabC i]⟩ := by rw [hh2 nx (by omega)]; exact hm
      have hstep := tabC_step i hlt
      have htl := tabC_len i
      have h2'' : tm2 2 = .int .u32 (Pl.tabI i) := h2'
      have FX := Fx.mk (And.intro @hag2 <| And.intro @hag <| And.intro @h8 <| And.intro @h2'' <| And.intro @hm2 <| And.intro @hd2 <| And.intro @h3 <| And.intro @hw <| And.intro @htl <| @hstep)
      repeat (first | refine v_ ?_ | refine u_ ?_ | refine nl_ ?_ | (refine nz_ ?_; first | (show aWp _ _ _ _ _) | skip) | refine sq_ ?_ | refine rg_ ?_ | refine k_ ?_ | refine ct_ ?_ | refine cf_ ?_ | refine bk_ ?_ | refine sc_ ?_ | (refine sk_ ?_; first | (show aWp _ _ _ _ _) | skip) | (refine ex_ ?_; first | (show aWp _ _ _ _ _) | skip) | refine rt_ ?_)
      refine ⟨16 - (i + 1), by omega, ⟨i + 1, by simp only; omega, by omega, rfl, ?_, ?_⟩, ?_, ?_, by simp only; omega, rfl⟩
      · (have FX := Fx0; exact cl_)
      · (have FX := Fx0; exact cl_)
      · refine KAgree.of ?_
        repeat' (first | exact True.intro | refine And.intro ?_ ?_ | ((have FX := Fx.mk (And.intro @hag2 <| @hag); exact cl_)))
      · exact (by have FX := Fx.mk (And.intro @hh2 <| @hh); exact ha_)
  · obtain rfl : i = 16 := by omega
    have hd : decide (((16 : Nat) : Int) < 16) = false := by decide
    have htl := tabC_len 16
    have htt : (tabC 16).take 16 = tabC 16 := List.take_of_length_le (by rw [htl]; omega)
    have htd : (tabC 16).drop 16 = [] := List.drop_of_length_le (by rw [htl]; omega)
    have FX := Fx.mk (And.intro @hag <| And.intro @h3 <| And.intro @hm <| And.intro @hh <| And.intro @hd <| And.intro @htl <| And.intro @htt <| @htd)
    repeat (first | refine v_ ?_ | refine u_ ?_ | refine nl_ ?_ | (refine nz_ ?_; first | (show aWp _ _ _ _ _) | skip) | refine sq_ ?_ | refine rg_ ?_ | refine k_ ?_ | refine ct_ ?_ | refine cf_ ?_ | refine bk_ ?_ | refine sc_ ?_ | (refine sk_ ?_; first | (show aWp _ _ _ _ _) | skip) | (refine ex_ ?_; first | (show aWp _ _ _ _ _) | skip) | refine rt_ ?_)
    (have FX := Fx.mk (And.intro @hag <| And.intro @hm <| And.intro @hh <| And.intro @htl <| And.intro @htt <| @htd); exact end_ Tryd.results100)
theorem tabC_drop (j : Nat) (hj : j < 16) : (tabC 16).drop j = AV.int .u32 (Pl.tabI j) :: (tabC 16).drop (j + 1) := by
  rw [List.drop_eq_getElem_cons (by rw [tabC_len]; exact hj)]
  simp [tabC, hj]
theorem crc_More (c : Fs.Reg) (l : List Int) : aFun Tryd.prog 93 [.int .u32 (Pl.rI c), .sl (numB .u8 l)] (.int .u32 (Pl.rI (Fs.more c (Pl.toB l)))) := by
  refine aFun_body Tryd.func93 rfl rfl (by simp [Tryd.ntmps93]) fun hreal h nx hfresh => ?_
  rw [Tryd.ntmps93]
  have hl := (hreal (.sl (numB .u8 l)) (by simp)).num.1
  have hby := (hreal (.sl (numB .u8 l)) (by simp)).BY
  have htl := tabC_len 16
  have htt : (tabC 16).take 16 = tabC 16 := List.take_of_length_le (by rw [htl]; omega)
  have htd : (tabC 16).drop 16 = [] := List.drop_of_length_le (by rw [htl]; omega)
  have hta : (tabC 16).all AV.one = true := by decide
  have FX := Fx.mk (And.intro @Pl.not_I <| And.intro @htl <| And.intro @htt <| And.intro @htd <| @hta)
  repeat (first | refine v_ ?_ | refine u_ ?_ | refine f_ (crc_half) fun kf hkf => ?_ | refine nl_ ?_ | (refine nz_ ?_; first | (show aWp _ _ _ _ _) | skip) | refine sq_ ?_ | refine rg_ ?_ | refine k_ ?_ | refine ct_ ?_ | refine cf_ ?_ | refine bk_ ?_ | refine sc_ ?_ | (refine sk_ ?_; first | (show aWp _ _ _ _ _) | skip) | (refine ex_ ?_; first | (show aWp _ _ _ _ _) | skip) | refine rt_ ?_)
  refine W_loopK [5, 11, 12] (kf + 1) (fun r tm h q => ∃ i : Nat, i ≤ l.length ∧ r = l.length - i ∧ tm 13 = .int .i64 i ∧ tm 0 = .int .u32 (Pl.rI (Fs.run (~~~ c) (Pl.toB (l.take i))))) l.length (by omega) ⟨0, by omega, rfl, rfl, by (have FX := Fx0; exact cl_)⟩ ?_
  rintro r tm' h' k' ⟨i, hi, rfl, h13, h0⟩ hag hh hk'
  by_cases hlt : i < l.length
  · have hd : decide ((i : Int) < (l.length : Int)) = true := decide_eq_true (by omega)
    have hw : IntKind.i64.wrap (i + 1) = ((i + 1 : Nat) : Int) := by rw [wrapI] <;> omega
    obtain ⟨x, hx⟩ : ∃ x, l[i]? = some x := ⟨l[i], List.getElem?_eq_getElem hlt⟩
    have hxr := hby x (List.mem_of_getElem? hx)
    have hw9 : IntKind.u32.wrap x = x := by rw [Pl.u32w] <;> omega
    have hti : l.take (i + 1) = l.take i ++ [x] := by rw [List.take_add_one, hx]; rfl
    have hrun := Pl.run_snoc (~~~ c) (l.take i) x
    rw [← hti, ← Pl.stN_8] at hrun
    generalize Fs.run (~~~ c) (Pl.toB (l.take i)) = r0 at hrun h0
    have hx1 : bits .xor .u32 (Pl.rI r0) x = Pl.rI (r0 ^^^ Fs.reg (UInt8.ofNat x.toNat)) := by rw [← Pl.bits_xor, Pl.reg_I x hxr]
    generalize r0 ^^^ Fs.reg (UInt8.ofNat x.toNat) = r1 at hrun hx1
    have hsh : ∀ r : Fs.Reg, (Pl.rI r).fdiv (2 ^ (min 4 IntKind.u32.bits)) = Pl.rI r / 16 := fun r => Int.fdiv_eq_ediv_of_nonneg _ (by decide)
    have hj1 : r1.toNat % 16 < 16 := Nat.mod_lt _ (by decide)
    have hj2 : (Fs.stN 4 r1).toNat % 16 < 16 := Nat.mod_lt _ (by decide)
    have hi1 : ((r1.toNat % 16 : Nat) : Int) < 16 := by omega
    have hi2 : (((Fs.stN 4 r1).toNat % 16 : Nat) : Int) < 16 := by omega
    have ha1 := Pl.and15_I r1
    have ha2 := Pl.and15_I (Fs.stN 4 r1)
    have ht1 := tabC_drop _ hj1
    have ht2 := tabC_drop _ hj2
    have hf1 := Pl.half_walk r1
    have hf2 := Pl.half_walk (Fs.stN 4 r1)
    rw [← hrun] at hf2
    generalize r1.toNat % 16 = j1 at *
    generalize (Fs.stN 4 r1).toNat % 16 = j2 at *
    have FX := Fx.mk (And.intro @hag <| And.intro @h13 <| And.intro @h0 <| And.intro @hh <| And.intro @hd <| And.intro @hw <| And.intro @hx <| And.intro @hw9 <| And.intro @hx1 <| And.intro @hsh <| And.intro @ha1 <| And.intro @ha2 <| And.intro @ht1 <| And.intro @ht2 <| And.intro @hf1 <| @hf2)
    repeat (first | refine v_ ?_ | refine u_ ?_ | refine nl_ ?_ | (refine nz_ ?_; first | (show aWp _ _ _ _ _) | skip) | refine sq_ ?_ | refine rg_ ?_ | refine k_ ?_ | refine ct_ ?_ | refine cf_ ?_ | refine bk_ ?_ | refine sc_ ?_ | (refine sk_ ?_; first | (show aWp _ _ _ _ _) | skip) | (refine ex_ ?_; first | (show aWp _ _ _ _ _) | skip) | refine rt_ ?_)
    refine ⟨l.length - (i + 1), by omega, ⟨i + 1, by omega, rfl, ?_, ?_⟩, ?_, ?_, by simp only; omega, rfl⟩
    · (have FX := Fx0; exact cl_)
    · (have FX := Fx0; exact cl_)
    · repeat (refine KAgree.upd rfl ?_)
      first | exact KAgree.refl _ _ | exact hag
    · exact (by have FX := Fx.mk (@hh); exact ha_)
  · obtain rfl : i = l.length := by omega
    have hd : decide ((l.length : Int) < (l.length : Int)) = false := by simp
    rw [List.take_length] at h0
    have FX := Fx.mk (And.intro @hag <| And.intro @h13 <| And.intro @h0 <| And.intro @hh <| And.intro @hd <| @Pl.not_I)
    repeat (first | refine v_ ?_ | refine u_ ?_ | refine nl_ ?_ | (refine nz_ ?_; first | (show aWp _ _ _ _ _) | skip) | refine sq_ ?_ | refine rg_ ?_ | refine k_ ?_ | refine ct_ ?_ | refine cf_ ?_ | refine bk_ ?_ | refine sc_ ?_ | (refine sk_ ?_; first | (show aWp _ _ _ _ _) | skip) | (refine ex_ ?_; first | (show aWp _ _ _ _ _) | skip) | refine rt_ ?_)
    have hm : ∀ b, Fs.more c b = ~~~ Fs.run (~~~ c) b := fun _ => rfl
    (have FX := Fx.mk (And.intro @hag <| And.intro @hh <| @hm); exact end_ Tryd.results93)
theorem crc_Sum (l : List Int) : aFun Tryd.prog 80 [.sl (numB .u8 l)] (.int .u32 (Pl.crcI l)) := by
  refine aFun_body Tryd.func80 rfl rfl (by simp [Tryd.ntmps80]) fun hreal h nx hfresh => ?_
  rw [Tryd.ntmps80]
  have hc := crc_More 0#32 l
  rw [show Pl.rI 0#32 = 0 by decide] at hc
  have FX := Fx0
  repeat (first | refine v_ ?_ | refine u_ ?_ | refine f_ (hc) fun kf hkf => ?_ | refine nl_ ?_ | (refine nz_ ?_; first | (show aWp _ _ _ _ _) | skip) | refine sq_ ?_ | refine rg_ ?_ | refine k_ ?_ | refine ct_ ?_ | refine cf_ ?_ | refine bk_ ?_ | refine sc_ ?_ | (refine sk_ ?_; first | (show aWp _ _ _ _ _) | skip) | (refine ex_ ?_; first | (show aWp _ _ _ _ _) | skip) | refine rt_ ?_)
  have hs : Pl.crcI l = Pl.rI (Fs.more 0#32 (Pl.toB l)) := rfl
  (have FX := Fx.mk (@hs); exact end_ Tryd.results80)
#print axioms crc_Sum
end Go.Proofs.YtjidgdfdeckofaaDoor.AE
