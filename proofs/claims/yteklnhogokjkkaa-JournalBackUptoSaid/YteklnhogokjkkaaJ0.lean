/- Layer 15 in plain words: a record, its octets, and back. No program in sight. -/
import Derived.Test.YteklnhogokjkkaaC2
import Derived.Test.YteklnhogokjkkaaPF
namespace Go.Proofs.Yteklnhogokjkkaa.AE
open Go Go.RowKit Go.Proofs Go.Proofs.Yteklnhogokjkkaa
set_option linter.unusedVariables false
abbrev Pg := Int × List Int
structure Rec where
  q : Int
  root : Int
  room : Int
  pages : List Pg
def pageB (p : Pg) : List AV := [.int .i64 p.1, .sl (numB .u8 p.2)]
def pagesB (l : List Pg) : List (List AV) := l.map pageB
theorem pagesB_len (l : List Pg) : (pagesB l).length = l.length := by simp [pagesB]
theorem pagesB_get (l : List Pg) (i : Nat) (p : Pg) (h : l[i]? = some p) : (pagesB l)[i]? = some [.int .i64 p.1, .sl (numB .u8 p.2)] := by simp [pagesB, h, pageB]
namespace Rec
def av (r : Rec) : AV := .agg [.int .i64 r.q, .int .i64 r.root, .int .i64 r.room, .sl (pagesB r.pages)]
theorem av_eq (r : Rec) : r.av = .agg [.int .i64 r.q, .int .i64 r.root, .int .i64 r.room, .sl (pagesB r.pages)] := rfl
def zero : Rec := ⟨0, 0, 0, []⟩
/-- The number ahead of page i. -/
def prevN (l : List Pg) : Nat → Int
  | 0 => 0
  | i + 1 => (l.getD i (0, [])).1
def okP (l : List Pg) (i : Nat) : Prop := prevN l i < (l.getD i (0, [])).1 ∧ (1 ≤ (l.getD i (0, [])).1 ∧ (l.getD i (0, [])).1 ≤ 2048) ∧ ((l.getD i (0, [])).2.length = 0 ∨ (l.getD i (0, [])).2.length = 64)
instance (l : List Pg) (i : Nat) : Decidable (okP l i) := inferInstanceAs (Decidable (_ ∧ _ ∧ _))
def ok (r : Rec) : Prop := (1 ≤ r.q ∧ r.q ≤ 1099511627776) ∧ (0 ≤ r.root ∧ r.root ≤ 2048) ∧ (0 ≤ r.room ∧ r.room ≤ 65536) ∧ r.pages.length ≤ 256 ∧ ∀ i, i < r.pages.length → okP r.pages i
instance (r : Rec) : Decidable r.ok := inferInstanceAs (Decidable (_ ∧ _ ∧ _ ∧ _ ∧ ∀ i, i < r.pages.length → _))
def chk (r : Rec) : Int := if r.ok then 0 else 9
end Rec
open Rec
theorem getD_some {α : Type} {l : List α} {i : Nat} {x d : α} (h : l[i]? = some x) : l.getD i d = x := by simp [List.getD, h]
/-! ### octets -/
def magJ : List Int := [102, 115, 106, 49]
def widJ : List Int := [8, 4, 4, 2]
def pageS (p : Pg) : List Int := Pl.putI 2 p.1 ++ (((min p.2.length 1 : Nat) : Int) :: p.2)
def pgsS (l : List Pg) : List Int := l.flatMap pageS
theorem pgsS_snoc (l : List Pg) (i : Nat) (p : Pg) (h : l[i]? = some p) : pgsS (l.take (i + 1)) = pgsS (l.take i) ++ pageS p := by
  unfold pgsS
  rw [List.take_add_one, h, List.flatMap_append]
  simp
theorem pageS_len (p : Pg) : (pageS p).length = 3 + p.2.length := by simp [pageS, Pl.putI_length]; omega
namespace Rec
def vals (r : Rec) : List Int := [r.q, r.root, r.room, (r.pages.length : Int)]
def hd (r : Rec) : List Int := magJ ++ Pl.flat widJ r.vals
def raw (r : Rec) : List Int := r.hd ++ pgsS r.pages
end Rec
def padN (n : Nat) : Nat := (n + 63) / 64 * 64
def padB (b : List Int) : List Int := b ++ List.replicate (padN b.length - b.length) 0
def Rec.enc (r : Rec) : List Int := padB (Pl.sealS r.raw)
theorem flat_widJ (a b c d : Int) : Pl.flat widJ [a, b, c, d] = Pl.putI 8 a ++ (Pl.putI 4 b ++ (Pl.putI 4 c ++ Pl.putI 2 d)) := by simp [Pl.flat, widJ]
theorem hd_len (r : Rec) : r.hd.length = 22 := by simp [hd, vals, flat_widJ, Pl.putI_length, magJ]
theorem fitsJ {r : Rec} (h : r.ok) : Pl.fits widJ r.vals := by
  obtain ⟨h1, h2, h3, h4, _⟩ := h
  exact ⟨⟨by decide, by decide, by omega, by show r.q < 256 ^ 8; omega⟩, ⟨by decide, by decide, by omega, by show r.root < 256 ^ 4; omega⟩, ⟨by decide, by decide, by omega, by show r.room < 256 ^ 4; omega⟩, ⟨by decide, by decide, by omega, by show (r.pages.length : Int) < 256 ^ 2; omega⟩, trivial⟩
theorem body_le {l : List Pg} (h : ∀ i, i < l.length → okP l i) : ∀ i, i ≤ l.length → (pgsS (l.take i)).length ≤ 67 * i
  | 0, _ => by simp [pgsS]
  | i + 1, hi => by
    have e := List.getElem?_eq_getElem (show i < l.length by omega)
    rw [pgsS_snoc l i _ e, List.length_append, pageS_len]
    have h1 := body_le h i (by omega)
    have h2 := h i (by omega)
    unfold okP at h2
    rw [getD_some e] at h2
    omega
theorem padN_le (n : Nat) : n ≤ padN n := by unfold padN; omega
theorem padB_len (b : List Int) : (padB b).length = padN b.length := by have := padN_le b.length; simp [padB]; omega
theorem enc_len (r : Rec) : r.enc.length = padN (22 + (pgsS r.pages).length + 4) := by rw [Rec.enc, padB_len, Pl.seal_len, Rec.raw, List.length_append, hd_len]
/-! ### and back -/
def numJ (b : List Int) (a n : Nat) : Int := Pl.leI ((b.drop a).take n)
def pageD (b : List Int) (a : Nat) : Except Int (Pg × Nat) :=
  if b.length < a + 3 then .error 8 else if 1 < numJ b (a + 2) 1 then .error 21 else if b.length < a + 3 + 64 * (numJ b (a + 2) 1).toNat then .error 8
  else .ok ((numJ b a 2, (b.drop (a + 3)).take (64 * (numJ b (a + 2) 1).toNat)), a + 3 + 64 * (numJ b (a + 2) 1).toNat)
def runP (b : List Int) : Nat → Except Int (List Pg × Nat)
  | 0 => .ok ([], 22)
  | i + 1 => match runP b i with
    | .error e => .error e
    | .ok (l, a) => match pageD b a with
      | .error e => .error e
      | .ok (p, a') => .ok (l ++ [p], a')
theorem runP_err {b : List Int} {e : Int} {i : Nat} (h : runP b i = .error e) : ∀ n, i ≤ n → runP b n = .error e
  | 0, hn => by obtain rfl : i = 0 := by omega
                exact h
  | n + 1, hn => by
    rcases Nat.lt_or_ge n i with q | q
    · obtain rfl : i = n + 1 := by omega
      exact h
    · rw [runP, runP_err h n q]
theorem runP_step {b : List Int} {i : Nat} {l : List Pg} {a : Nat} {p : Pg} {a' : Nat} (h : runP b i = .ok (l, a)) (hp : pageD b a = .ok (p, a')) : runP b (i + 1) = .ok (l ++ [p], a') := by rw [runP, h]; simp only; rw [hp]
theorem runP_bad {b : List Int} {i : Nat} {l : List Pg} {a : Nat} {e : Int} (h : runP b i = .ok (l, a)) (hp : pageD b a = .error e) {n : Nat} (hn : i < n) : runP b n = .error e := runP_err (i := i + 1) (by rw [runP, h]; simp only; rw [hp]) n hn
theorem pageD_len {b : List Int} {a a' : Nat} {p : Pg} (h : pageD b a = .ok (p, a')) : a + 3 ≤ a' ∧ a' ≤ b.length := by
  unfold pageD at h
  split at h
  · cases h
  split at h
  · cases h
  split at h
  · cases h
  cases h
  omega
theorem runP_len {b : List Int} (hb : 22 ≤ b.length) : ∀ {n : Nat} {l : List Pg} {a : Nat}, runP b n = .ok (l, a) → l.length = n ∧ 22 + 3 * n ≤ a ∧ a ≤ b.length
  | 0, l, a, h => by cases h; exact ⟨rfl, by omega, hb⟩
  | n + 1, l, a, h => by
    rw [runP] at h
    split at h
    · cases h
    rename_i l0 a0 h0
    split at h
    · cases h
    rename_i p a1 h1
    cases h
    obtain ⟨q1, q2, q3⟩ := runP_len hb h0
    obtain ⟨q4, q5⟩ := pageD_len h1
    exact ⟨by simp [q1], by omega, q5⟩
def recD (b : List Int) (l : List Pg) : Rec := ⟨min (numJ b 4 8) 4611686018427387904, numJ b 12 4, numJ b 16 4, l⟩
def decR (b : List Int) : Except Int (Rec × Nat) :=
  if ¬ (b.take 4 <+: magJ) then .error 21 else if b.length < 22 then .error 8 else if 256 < numJ b 20 2 then .error 21 else
  match runP b (numJ b 20 2).toNat with
  | .error e => .error e
  | .ok (l, a) => if b.length < padN (a + 4) then .error 8 else if (recD b l).ok ∧ (recD b l).enc = b.take (padN (a + 4)) then .ok (recD b l, padN (a + 4)) else .error 21
def decS (b : List Int) : Rec × Int × Int := match decR b with
  | .error e => (Rec.zero, 0, e)
  | .ok (r, n) => (r, (n : Int), 0)
def decV (b : List Int) : AV := .tup [(decS b).1.av, .int .i64 (decS b).2.1, .int .i64 (decS b).2.2]
theorem decV_err {b : List Int} {e : Int} (h : decR b = .error e) : decV b = .tup [.agg [.int .i64 0, .int .i64 0, .int .i64 0, .sl []], .int .i64 0, .int .i64 e] := by
  unfold decV decS
  rw [h]
  rfl
theorem decV_ok {b : List Int} {r : Rec} {n : Nat} (h : decR b = .ok (r, n)) : decV b = .tup [r.av, .int .i64 (n : Int), .int .i64 0] := by
  unfold decV decS
  rw [h]
theorem decR_errs {b : List Int} {e : Int} (h : decR b = .error e) : e = 8 ∨ e = 21 := by
  have run : ∀ n e, runP b n = .error e → e = 8 ∨ e = 21 := by
    intro n
    induction n with
    | zero => intro e h; cases h
    | succ n ih =>
      intro e h
      rw [runP] at h
      split at h
      · rename_i e0 h0
        cases h
        exact ih _ h0
      · split at h
        · rename_i e1 h1
          cases h
          unfold pageD at h1
          split at h1
          · cases h1; exact .inl rfl
          split at h1
          · cases h1; exact .inr rfl
          split at h1
          · cases h1; exact .inl rfl
          cases h1
        · cases h
  unfold decR at h
  split at h
  · cases h; exact .inr rfl
  split at h
  · cases h; exact .inl rfl
  split at h
  · cases h; exact .inr rfl
  split at h
  · rename_i e0 h0
    cases h
    exact run _ _ h0
  · split at h
    · cases h; exact .inl rfl
    split at h
    · cases h
    · cases h; exact .inr rfl
theorem decR_ok {b : List Int} {r : Rec} {n : Nat} (h : decR b = .ok (r, n)) : r.ok ∧ r.enc = b.take n ∧ n ≤ b.length ∧ 64 ≤ n := by
  unfold decR at h
  split at h
  · cases h
  split at h
  · cases h
  split at h
  · cases h
  split at h
  · cases h
  · rename_i l a h0
    split at h
    · cases h
    split at h
    · rename_i h1
      cases h
      refine ⟨h1.1, h1.2, by omega, ?_⟩
      unfold padN
      omega
    · cases h
/-! ### a record comes back -/
theorem numJ_at {b X Y : List Int} {k a : Nat} {n : Int} (hb : b = X ++ (Pl.putI k n ++ Y)) (ha : X.length = a) (h0 : 0 ≤ n) (h1 : n < 256 ^ k) : numJ b a k = n := by
  subst hb ha
  have hl := Pl.putI_length k n
  unfold numJ
  rw [List.drop_left, List.take_append_of_le_length (by omega), List.take_of_length_le (by omega), Pl.leI_put k n h0 h1]
theorem pageD_at {b X Y : List Int} {p : Pg} {a : Nat} (hb : b = X ++ (pageS p ++ Y)) (ha : X.length = a) (h0 : 0 ≤ p.1 ∧ p.1 ≤ 2048) (hl : p.2.length = 0 ∨ p.2.length = 64) : pageD b a = .ok (p, a + (pageS p).length) := by
  have hf : numJ b (a + 2) 1 = ((min p.2.length 1 : Nat) : Int) := by
    rcases hl with hl | hl
    · refine numJ_at (X := X ++ Pl.putI 2 p.1) (Y := p.2 ++ Y) ?_ (by simp [Pl.putI_length, ha]) (by omega) (by rw [hl]; decide)
      rw [hb, hl]
      simp [pageS, hl, show Pl.putI 1 0 = [0] from rfl]
    · refine numJ_at (X := X ++ Pl.putI 2 p.1) (Y := p.2 ++ Y) ?_ (by simp [Pl.putI_length, ha]) (by omega) (by rw [hl]; decide)
      rw [hb, hl]
      simp [pageS, hl, show Pl.putI 1 1 = [1] from rfl]
  have hn : numJ b a 2 = p.1 := numJ_at (X := X) (Y := ((min p.2.length 1 : Nat) : Int) :: p.2 ++ Y) (by rw [hb]; simp [pageS]) ha h0.1 (by have := h0.2; show p.1 < 65536; omega)
  have hlen : b.length = a + (3 + p.2.length) + Y.length := by rw [hb, List.length_append, List.length_append, pageS_len, ha]; omega
  have h64 : 64 * (numJ b (a + 2) 1).toNat = p.2.length := by rw [hf]; omega
  have hd : (b.drop (a + 3)).take p.2.length = p.2 := by
    have e : b = (X ++ Pl.putI 2 p.1 ++ [((min p.2.length 1 : Nat) : Int)]) ++ (p.2 ++ Y) := by rw [hb]; simp [pageS]
    rw [e, List.drop_left' (by simp [Pl.putI_length, ha]), List.take_left']
    rfl
  unfold pageD
  rw [if_neg (by omega), if_neg (by rw [hf]; omega), h64, if_neg (by omega), hn, hd, pageS_len, show a + 3 + p.2.length = a + (3 + p.2.length) by omega]
theorem runP_at {b X Y : List Int} {l : List Pg} (hb : b = X ++ (pgsS l ++ Y)) (ha : X.length = 22) (h : ∀ i, i < l.length → okP l i) : ∀ i, i ≤ l.length → runP b i = .ok (l.take i, 22 + (pgsS (l.take i)).length)
  | 0, _ => by simp [runP, pgsS]
  | i + 1, hi => by
    have e := List.getElem?_eq_getElem (show i < l.length by omega)
    have h2 := h i (by omega)
    unfold okP at h2
    rw [getD_some e] at h2
    have hs : pgsS l = pgsS (l.take i) ++ (pageS l[i] ++ pgsS (l.drop (i + 1))) := by
      rw [← List.append_assoc, ← pgsS_snoc l i _ e]
      unfold pgsS
      rw [← List.flatMap_append, List.take_append_drop]
    have hp := pageD_at (b := b) (X := X ++ pgsS (l.take i)) (Y := pgsS (l.drop (i + 1)) ++ Y) (p := l[i]) (a := 22 + (pgsS (l.take i)).length) (by rw [hb, hs]; simp) (by simp [ha]) (by omega) h2.2.2
    rw [runP_step (runP_at hb ha h i (by omega)) hp, pgsS_snoc l i _ e, List.take_add_one, e, List.length_append]
    simp [Nat.add_assoc]
theorem dec_enc {r : Rec} (h : r.ok) (more : List Int) : decR (r.enc ++ more) = .ok (r, r.enc.length) := by
  obtain ⟨h1, h2, h3, h4, h5⟩ := h
  obtain ⟨Z, hZ⟩ : ∃ Z, r.enc ++ more = r.raw ++ Z := by
    refine ⟨Pl.putI 4 (Pl.crcI r.raw) ++ List.replicate (padN (Pl.sealS r.raw).length - (Pl.sealS r.raw).length) 0 ++ more, ?_⟩
    unfold Rec.enc padB
    rw [show Pl.sealS r.raw = r.raw ++ Pl.putI 4 (Pl.crcI r.raw) from rfl]
    simp
  have hl : 22 + (pgsS r.pages).length ≤ (r.enc ++ more).length := by rw [hZ, Rec.raw]; simp [hd_len]
  have hraw : r.raw = magJ ++ (Pl.putI 8 r.q ++ (Pl.putI 4 r.root ++ (Pl.putI 4 r.room ++ (Pl.putI 2 (r.pages.length : Int) ++ pgsS r.pages)))) := by
    unfold Rec.raw Rec.hd Rec.vals
    rw [flat_widJ]
    simp
  have n4 : numJ (r.enc ++ more) 4 8 = r.q := numJ_at (X := magJ) (by rw [hZ, hraw]; simp only [List.append_assoc]; rfl) rfl (by omega) (by show r.q < 18446744073709551616; omega)
  have n12 : numJ (r.enc ++ more) 12 4 = r.root := numJ_at (X := magJ ++ Pl.putI 8 r.q) (by rw [hZ, hraw]; simp only [List.append_assoc]; rfl) (by simp [Pl.putI_length, magJ]) (by omega) (by show r.root < 4294967296; omega)
  have n16 : numJ (r.enc ++ more) 16 4 = r.room := numJ_at (X := magJ ++ Pl.putI 8 r.q ++ Pl.putI 4 r.root) (by rw [hZ, hraw]; simp only [List.append_assoc]; rfl) (by simp [Pl.putI_length, magJ]) (by omega) (by show r.room < 4294967296; omega)
  have n20 : numJ (r.enc ++ more) 20 2 = (r.pages.length : Int) := numJ_at (X := magJ ++ Pl.putI 8 r.q ++ Pl.putI 4 r.root ++ Pl.putI 4 r.room) (by rw [hZ, hraw]; simp only [List.append_assoc]; rfl) (by simp [Pl.putI_length, magJ]) (by omega) (by show (r.pages.length : Int) < 65536; omega)
  have hrun := runP_at (b := r.enc ++ more) (X := r.hd) (Y := Z) (l := r.pages) (by rw [hZ, Rec.raw]; simp) (hd_len r) h5 r.pages.length (Nat.le_refl _)
  rw [List.take_length] at hrun
  have hrec : recD (r.enc ++ more) r.pages = r := by
    unfold recD
    rw [n4, n12, n16, Int.min_eq_left (by omega)]
  have hpn : padN (22 + (pgsS r.pages).length + 4) = r.enc.length := (enc_len r).symm
  unfold decR
  rw [if_neg (by
    simp only [Classical.not_not]
    rw [hZ, hraw, List.append_assoc, List.take_left' (show magJ.length = 4 from rfl)]
    exact List.prefix_refl _), if_neg (by omega), n20, if_neg (by omega), Int.toNat_natCast, hrun]
  simp only
  rw [hpn, if_neg (by simp), hrec, if_pos ⟨⟨h1, h2, h3, h4, h5⟩, by rw [List.take_left' rfl]⟩]
/-! ### records, one behind the other -/
def scanF : Nat → List Int → Int → List Rec × Nat
  | 0, _, _ => ([], 0)
  | k + 1, b, next => match decR b with
    | .error _ => ([], 0)
    | .ok (r, n) => if r.q = next then (r :: (scanF k (b.drop n) (next + 1)).1, n + (scanF k (b.drop n) (next + 1)).2) else ([], 0)
theorem scanF_fuel : ∀ (k k' : Nat) (b : List Int) (next : Int), b.length < k → b.length < k' → scanF k b next = scanF k' b next
  | k + 1, k' + 1, b, next, h, h' => by
    rw [scanF, scanF]
    cases hd : decR b with
    | error e => rfl
    | ok p =>
      obtain ⟨r, n⟩ := p
      obtain ⟨_, _, q3, q4⟩ := decR_ok hd
      simp only
      rw [scanF_fuel k k' (b.drop n) (next + 1) (by simp; omega) (by simp; omega)]
def scanS (b : List Int) (next : Int) : List Rec × Nat := scanF (b.length + 1) b next
theorem scan_bad {b : List Int} {next e : Int} (h : decR b = .error e) : scanS b next = ([], 0) := by
  unfold scanS scanF
  rw [h]
theorem scan_no {b : List Int} {next : Int} {r : Rec} {n : Nat} (h : decR b = .ok (r, n)) (hq : r.q ≠ next) : scanS b next = ([], 0) := by
  unfold scanS scanF
  rw [h]
  simp [hq]
theorem scan_yes {b : List Int} {next : Int} {r : Rec} {n : Nat} (h : decR b = .ok (r, n)) (hq : r.q = next) : scanS b next = (r :: (scanS (b.drop n) (next + 1)).1, n + (scanS (b.drop n) (next + 1)).2) := by
  obtain ⟨_, _, q3, q4⟩ := decR_ok h
  have e := scanF_fuel b.length ((b.drop n).length + 1) (b.drop n) (next + 1) (by simp; omega) (by omega)
  unfold scanS
  rw [scanF, h]
  simp only
  rw [if_pos hq, e]
theorem decR_nil : decR [] = .error 8 := rfl
end Go.Proofs.Yteklnhogokjkkaa.AE
