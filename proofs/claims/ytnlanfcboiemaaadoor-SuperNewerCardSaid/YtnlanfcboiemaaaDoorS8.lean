/- Layer 4's page: Unpack, Decode, Newest. -/
import Derived.Test.YtnlanfcboiemaaaDoorS6
import Derived.Test.YtnlanfcboiemaaaDoorS7
import Derived.Test.YtnlanfcboiemaaaDoorG11
namespace Go.Proofs.YtnlanfcboiemaaaDoor.AE
open Go Go.RowKit Go.Proofs Go.Proofs.YtnlanfcboiemaaaDoor
set_option linter.unusedVariables false
set_option linter.unusedSimpArgs false
set_option maxRecDepth 100000
set_option maxHeartbeats 8000000
theorem ref01_Unpack4 (y : List Int) (hy : y.length = 36) : aFun Tryd.prog 36 [.sl (numB .i64 wid4), .sl (numB .u8 y)] (.tup [.sl (numB .u64 (Pl.unpackGo wid4 y)), .int .i64 0]) := by
  have wl : wid4.length = 7 := rfl
  have ul : (Pl.unpackGo wid4 y).length = 7 := rfl
  have dl : decide (64 < ((7 : Nat) : Int)) = false := rfl
  have d0 : decide ((0 : Int) = 0) = true := rfl
  refine aFun_body Tryd.func36 rfl rfl (by simp [Tryd.ntmps36]) fun hreal h nx hfresh => ?_
  rw [Tryd.ntmps36]
  have FX := Fx.mk (And.intro @wl <| @dl)
  repeat (first | refine v_ ?_ | refine u_ ?_ | refine nl_ ?_ | (refine nz_ ?_; first | (show aWp _ _ _ _ _) | skip) | refine sq_ ?_ | refine rg_ ?_ | refine k_ ?_ | refine ct_ ?_ | refine cf_ ?_ | refine bk_ ?_ | refine sc_ ?_ | (refine sk_ ?_; first | (show aWp _ _ _ _ _) | skip) | (refine ex_ ?_; first | (show aWp _ _ _ _ _) | skip) | refine rt_ ?_)
  refine W_loopK [0, 1, 4, 5] nx (fun r tm h q => ∃ i : Nat, i ≤ 7 ∧ r = 7 - i ∧ tm 6 = .int .i64 i) 7 (by omega) ⟨0, by omega, rfl, by (have FX := Fx0; exact cl_)⟩ ?_
  rintro r tm' h' k' ⟨i, hi, rfl, h6⟩ hag hh hk'
  by_cases hlt : i < 7
  · have hd : decide ((i : Int) < ((7 : Nat) : Int)) = true := decide_eq_true (by omega)
    have hw : IntKind.i64.wrap (i + 1) = ((i + 1 : Nat) : Int) := by rw [wrapI] <;> omega
    have wg := Sup.wid_get i hlt
    have wi := Sup.width_in i hlt
    have d1 : decide (((Sup.width i : Nat) : Int) < 1) = false := decide_eq_false (by omega)
    have d8 : decide (8 < ((Sup.width i : Nat) : Int)) = false := decide_eq_false (by omega)
    have FX := Fx.mk (And.intro @hag <| And.intro @h6 <| And.intro @hd <| And.intro @hw <| And.intro @wl <| And.intro @wg <| And.intro @d1 <| @d8)
    repeat (first | refine v_ ?_ | refine u_ ?_ | refine nl_ ?_ | (refine nz_ ?_; first | (show aWp _ _ _ _ _) | skip) | refine sq_ ?_ | refine rg_ ?_ | refine k_ ?_ | refine ct_ ?_ | refine cf_ ?_ | refine bk_ ?_ | refine sc_ ?_ | (refine sk_ ?_; first | (show aWp _ _ _ _ _) | skip) | (refine ex_ ?_; first | (show aWp _ _ _ _ _) | skip) | refine rt_ ?_)
    refine ⟨7 - (i + 1), by omega, ⟨i + 1, by omega, rfl, by (have FX := Fx0; exact cl_)⟩, ?_, ?_, by first | omega | (simp only; omega), rfl⟩
    · repeat (refine KAgree.upd rfl ?_)
      first | exact KAgree.refl _ _ | exact hag
    · exact (by have FX := Fx.mk (@hh); exact ha_)
  obtain rfl : i = 7 := by omega
  have hd : decide (((7 : Nat) : Int) < ((7 : Nat) : Int)) = false := rfl
  have FX := Fx.mk (And.intro @hag <| And.intro @h6 <| And.intro @hd <| @wl)
  repeat (first | refine v_ ?_ | refine u_ ?_ | refine nl_ ?_ | (refine nz_ ?_; first | (show aWp _ _ _ _ _) | skip) | refine sq_ ?_ | refine rg_ ?_ | refine k_ ?_ | refine ct_ ?_ | refine cf_ ?_ | refine bk_ ?_ | refine sc_ ?_ | (refine sk_ ?_; first | (show aWp _ _ _ _ _) | skip) | (refine ex_ ?_; first | (show aWp _ _ _ _ _) | skip) | refine rt_ ?_)
  refine W_loopK [0, 1] nx (fun r tm h q => ∃ i : Nat, i ≤ 7 ∧ r = 7 - i ∧ tm 9 = .int .i64 i ∧ tm 8 = .int .i64 (Sup.off i : Nat) ∧ ((tm 7 = .zs ∧ i = 0) ∨ ∃ m, tm 7 = .hs m 0 ((Pl.unpackGo wid4 y).take i).length ∧ nx ≤ m ∧ m < q ∧ h m = some ⟨1, numB .u64 ((Pl.unpackGo wid4 y).take i)⟩)) 7 (by omega) ⟨0, by omega, rfl, by (have FX := Fx0; exact cl_), by (have FX := Fx0; exact cl_), .inl ⟨by (have FX := Fx0; exact cl_), rfl⟩⟩ ?_
  rintro r tm2 h2 k2 ⟨i, hi, rfl, h9, h8, h7⟩ hag2 hh2 hk2
  by_cases hlt : i < 7
  · have hd : decide ((i : Int) < ((7 : Nat) : Int)) = true := decide_eq_true (by omega)
    have hw : IntKind.i64.wrap (i + 1) = ((i + 1 : Nat) : Int) := by rw [wrapI] <;> omega
    have wg := Sup.wid_get i hlt
    have wi := Sup.width_in i hlt
    have hot := Sup.off_succ i hlt
    have hof := Sup.off_le (i + 1)
    have ug := Sup.un_get y i hlt
    have hg := ref01_Get y (Sup.off i : Nat) (Sup.width i : Nat)
    have hgs : Pl.getS y (Sup.off i : Nat) (Sup.width i : Nat) = (Pl.leI ((y.drop (Sup.off i)).take (Sup.width i)), 0) := by
      unfold Pl.getS
      rw [if_neg (by omega), if_neg (by omega), if_neg (by omega), Int.toNat_natCast, Int.toNat_natCast]
    rw [hgs] at hg
    have hwa : IntKind.i64.wrap (((Sup.off i : Nat) : Int) + ((Sup.width i : Nat) : Int)) = ((Sup.off (i + 1) : Nat) : Int) := by rw [wrapI] <;> omega
    have hsn : (Pl.unpackGo wid4 y).take (i + 1) = (Pl.unpackGo wid4 y).take i ++ [Pl.leI ((y.drop (Sup.off i)).take (Sup.width i))] := by rw [List.take_add_one, ug]; rfl
    have htl : ((Pl.unpackGo wid4 y).take i).length = i := by simp [ul]; omega
    generalize Pl.leI ((y.drop (Sup.off i)).take (Sup.width i)) = v at hg hsn
    rcases h7 with ⟨h7, rfl⟩ | ⟨m, h7, m1, m2, m3⟩
    · have hsn0 : (Pl.unpackGo wid4 y).take (0 + 1) = [v] := by rw [hsn]; rfl
      have FX := Fx.mk (And.intro @hag2 <| And.intro @hag <| And.intro @h9 <| And.intro @h8 <| And.intro @h7 <| And.intro @hd <| And.intro @hw <| And.intro @wl <| And.intro @wg <| And.intro @hwa <| And.intro @d0 <| @Bool.not_true)
      repeat (first | refine v_ ?_ | refine u_ ?_ | refine f_ (hg) fun kf hkf => ?_ | refine nl_ ?_ | (refine nz_ ?_; first | (show aWp _ _ _ _ _) | skip) | refine sq_ ?_ | refine rg_ ?_ | refine k_ ?_ | refine ct_ ?_ | refine cf_ ?_ | refine bk_ ?_ | refine sc_ ?_ | (refine sk_ ?_; first | (show aWp _ _ _ _ _) | skip) | (refine ex_ ?_; first | (show aWp _ _ _ _ _) | skip) | refine rt_ ?_)
      refine ⟨7 - (0 + 1), by omega, ⟨0 + 1, by omega, rfl, by (have FX := Fx0; exact cl_), by (have FX := Fx0; exact cl_), .inr ⟨kf + 1, by (have FX := Fx.mk (@hsn0); exact cl_), by omega, by first | omega | (simp only; omega), by (have FX := Fx.mk (@hsn0); exact cl_)⟩⟩, ?_, ?_, by first | omega | (simp only; omega), rfl⟩
      · refine KAgree.of ?_
        repeat' (first | exact True.intro | refine And.intro ?_ ?_ | ((have FX := Fx.mk (@hag2); exact cl_)))
      · exact (by have FX := Fx.mk (@hh2); exact ha_)
    · have FX := Fx.mk (And.intro @hag2 <| And.intro @hag <| And.intro @h9 <| And.intro @h8 <| And.intro @h7 <| And.intro @m3 <| And.intro @hd <| And.intro @hw <| And.intro @wl <| And.intro @wg <| And.intro @hwa <| And.intro @d0 <| @Bool.not_true)
      repeat (first | refine v_ ?_ | refine u_ ?_ | refine f_ (hg) fun kf hkf => ?_ | refine nl_ ?_ | (refine nz_ ?_; first | (show aWp _ _ _ _ _) | skip) | refine sq_ ?_ | refine rg_ ?_ | refine k_ ?_ | refine ct_ ?_ | refine cf_ ?_ | refine bk_ ?_ | refine sc_ ?_ | (refine sk_ ?_; first | (show aWp _ _ _ _ _) | skip) | (refine ex_ ?_; first | (show aWp _ _ _ _ _) | skip) | refine rt_ ?_)
      refine ⟨7 - (i + 1), by omega, ⟨i + 1, by omega, rfl, by (have FX := Fx0; exact cl_), by (have FX := Fx0; exact cl_), .inr ⟨kf + 1, by (have FX := Fx.mk (@hsn); exact cl_), by omega, by first | omega | (simp only; omega), by (have FX := Fx.mk (@hsn); exact cl_)⟩⟩, ?_, ?_, by first | omega | (simp only; omega), rfl⟩
      · refine KAgree.of ?_
        repeat' (first | exact True.intro | refine And.intro ?_ ?_ | ((have FX := Fx.mk (@hag2); exact cl_)))
      · exact (by have FX := Fx.mk (@hh2); exact ha_)
  obtain rfl : i = 7 := by omega
  have ho : Sup.off 7 = 36 := rfl
  rw [ho] at h8
  have hd2 : decide (((36 : Nat) : Int) < (y.length : Int)) = false := by rw [hy]; rfl
  have hta : (Pl.unpackGo wid4 y).take 7 = Pl.unpackGo wid4 y := rfl
  rcases h7 with ⟨_, h7⟩ | ⟨m, h7, m1, m2, m3⟩
  · omega
  rw [hta] at h7 m3
  have FX := Fx.mk (And.intro @hag2 <| And.intro @hag <| And.intro @h9 <| And.intro @h8 <| And.intro @h7 <| And.intro @hd <| And.intro @wl <| @hd2)
  repeat (first | refine v_ ?_ | refine u_ ?_ | refine nl_ ?_ | (refine nz_ ?_; first | (show aWp _ _ _ _ _) | skip) | refine sq_ ?_ | refine rg_ ?_ | refine k_ ?_ | refine ct_ ?_ | refine cf_ ?_ | refine bk_ ?_ | refine sc_ ?_ | (refine sk_ ?_; first | (show aWp _ _ _ _ _) | skip) | (refine ex_ ?_; first | (show aWp _ _ _ _ _) | skip) | refine rt_ ?_)
  (have FX := Fx.mk (And.intro @hag2 <| And.intro @h7 <| And.intro @m3 <| And.intro @hh2 <| @hh); exact end_ Tryd.results36)
theorem ref04_number (n : Int) (h0 : 0 ≤ n) : aFun Tryd.prog 37 [.int .u64 n] (.int .i64 (Sup.clampN 4611686018427387904 n)) := by
  have hcl : (if 4611686018427387904 < n then 4611686018427387904 else n) = Sup.clampN 4611686018427387904 n := rfl
  have hcw : IntKind.i64.wrap (Sup.clampN 4611686018427387904 n) = Sup.clampN 4611686018427387904 n := by rw [wrapI] <;> unfold Sup.clampN <;> split <;> omega
  refine aFun_body Tryd.func37 rfl rfl (by simp [Tryd.ntmps37]) fun hreal h nx hfresh => ?_
  rw [Tryd.ntmps37]
  have FX := Fx.mk (And.intro @hcl <| @hcw)
  repeat (first | refine v_ ?_ | refine u_ ?_ | refine nl_ ?_ | (refine nz_ ?_; first | (show aWp _ _ _ _ _) | skip) | refine sq_ ?_ | refine rg_ ?_ | refine k_ ?_ | refine ct_ ?_ | refine cf_ ?_ | refine bk_ ?_ | refine sc_ ?_ | (refine sk_ ?_; first | (show aWp _ _ _ _ _) | skip) | (refine ex_ ?_; first | (show aWp _ _ _ _ _) | skip) | refine rt_ ?_)
  (have FX := Fx0; exact end_ Tryd.results37)
theorem ref04_Decode (b : List Int) : aFun Tryd.prog 20 [.sl (numB .u8 b)] (Sup.toldV b) := by
  have d0 : decide ((0 : Int) = 0) = true := rfl
  have d21 : decide ((21 : Int) = 0) = false := rfl
  by_cases hl : b.length = 64
  rotate_left
  · rw [toldV_zero (n := 8) (by unfold Sup.told; rw [if_pos hl])]
    have dl : decide ((b.length : Int) = 64) = false := decide_eq_false (by omega)
    refine aFun_body Tryd.func20 rfl rfl (by simp [Tryd.ntmps20]) fun hreal h nx hfresh => ?_
    rw [Tryd.ntmps20]
    have FX := Fx.mk (And.intro @dl <| @Bool.not_false)
    repeat (first | refine v_ ?_ | refine u_ ?_ | refine nl_ ?_ | (refine nz_ ?_; first | (show aWp _ _ _ _ _) | skip) | refine sq_ ?_ | refine rg_ ?_ | refine k_ ?_ | refine ct_ ?_ | refine cf_ ?_ | refine bk_ ?_ | refine sc_ ?_ | (refine sk_ ?_; first | (show aWp _ _ _ _ _) | skip) | (refine ex_ ?_; first | (show aWp _ _ _ _ _) | skip) | refine rt_ ?_)
    (have FX := Fx0; exact end_ Tryd.results20)
  have dl : decide ((b.length : Int) = 64) = true := decide_eq_true (by omega)
  have op := ref02_Open b (by omega)
  rcases open_len hl with ho | ⟨ho, hx⟩
  · rw [toldV_zero (n := 21) (by unfold Sup.told; rw [if_neg (by simp [hl]), if_pos (.inl (by rw [ho]; decide))])]
    rw [ho] at op
    refine aFun_body Tryd.func20 rfl rfl (by simp [Tryd.ntmps20]) fun hreal h nx hfresh => ?_
    rw [Tryd.ntmps20]
    have FX := Fx.mk (And.intro @dl <| And.intro @d21 <| And.intro @Bool.not_true <| @Bool.not_false)
    repeat (first | refine v_ ?_ | refine u_ ?_ | refine f_ (op) fun kf hkf => ?_ | refine nl_ ?_ | (refine nz_ ?_; first | (show aWp _ _ _ _ _) | skip) | refine sq_ ?_ | refine rg_ ?_ | refine k_ ?_ | refine ct_ ?_ | refine cf_ ?_ | refine bk_ ?_ | refine sc_ ?_ | (refine sk_ ?_; first | (show aWp _ _ _ _ _) | skip) | (refine ex_ ?_; first | (show aWp _ _ _ _ _) | skip) | refine rt_ ?_)
    (have FX := Fx0; exact end_ Tryd.results20)
  rw [ho] at op
  obtain ⟨x, hxx⟩ : ∃ x, (Pl.openS b).1 = x := ⟨_, rfl⟩
  have htold : ¬ (b.length ≠ 64) := by simp [hl]
  rw [hxx] at op hx
  have e4 : ∀ tm : Nat → AV, evA tm (.const (.string { data := #[102, 115, 116, 49] })) = .str mag4 := fun _ => rfl
  have hxi : (x.length : Int) = 60 := by omega
  have l4 : (4 : Int) ≤ (x.length : Int) := by omega
  by_cases hp : mag4 <+: x
  rotate_left
  · rw [toldV_zero (n := 21) (by unfold Sup.told; rw [if_neg htold, if_pos (.inr (.inl (by rw [hxx]; exact hp)))])]
    have dm : decide (x.take 4 = mag4) = false := decide_eq_false fun q => hp (by rw [List.prefix_iff_eq_take]; exact q.symm)
    refine aFun_body Tryd.func20 rfl rfl (by simp [Tryd.ntmps20]) fun hreal h nx hfresh => ?_
    rw [Tryd.ntmps20]
    have FX := Fx.mk (And.intro @dl <| And.intro @d0 <| And.intro @e4 <| And.intro @l4 <| And.intro @dm <| And.intro @Bool.not_true <| @Bool.not_false)
    repeat (first | refine v_ ?_ | refine u_ ?_ | refine f_ (op) fun kf hkf => ?_ | refine nl_ ?_ | (refine nz_ ?_; first | (show aWp _ _ _ _ _) | skip) | refine sq_ ?_ | refine rg_ ?_ | refine k_ ?_ | refine ct_ ?_ | refine cf_ ?_ | refine bk_ ?_ | refine sc_ ?_ | (refine sk_ ?_; first | (show aWp _ _ _ _ _) | skip) | (refine ex_ ?_; first | (show aWp _ _ _ _ _) | skip) | refine rt_ ?_)
    (have FX := Fx0; exact end_ Tryd.results20)
  have dm : decide (x.take 4 = mag4) = true := decide_eq_true (by rw [List.prefix_iff_eq_take] at hp; exact hp.symm)
  have htv : Sup.told b = if ∀ y ∈ x.drop 40, y = 0 then (if (Sup.raw x).ok then (Sup.raw x, 0) else (Sup.zero, 4)) else (Sup.zero, 21) := by
    unfold Sup.told
    rw [if_neg htold, hxx]
    by_cases hz : ∀ y ∈ x.drop 40, y = 0
    · rw [if_pos hz, if_neg (by rw [ho]; simp only [not_or, Classical.not_not, ne_eq]; exact ⟨trivial, hp, hz⟩)]
    · rw [if_neg hz, if_pos (.inr (.inr hz))]
  refine aFun_body Tryd.func20 rfl rfl (by simp [Tryd.ntmps20]) fun hreal h nx hfresh => ?_
  rw [Tryd.ntmps20]
  have FX := Fx.mk (And.intro @dl <| And.intro @d0 <| And.intro @e4 <| And.intro @l4 <| And.intro @dm <| And.intro @Bool.not_true <| @Bool.not_false)
  repeat (first | refine v_ ?_ | refine u_ ?_ | refine f_ (op) fun kf hkf => ?_ | refine nl_ ?_ | (refine nz_ ?_; first | (show aWp _ _ _ _ _) | skip) | refine sq_ ?_ | refine rg_ ?_ | refine k_ ?_ | refine ct_ ?_ | refine cf_ ?_ | refine bk_ ?_ | refine sc_ ?_ | (refine sk_ ?_; first | (show aWp _ _ _ _ _) | skip) | (refine ex_ ?_; first | (show aWp _ _ _ _ _) | skip) | refine rt_ ?_)
  refine W_loopK [2, 3, 4] kf (fun r tm h q => ∃ i : Nat, 40 ≤ i ∧ i ≤ 60 ∧ r = 60 - i ∧ tm 6 = .int .i64 i ∧ ∀ y ∈ (x.drop 40).take (i - 40), y = 0) 20 (by omega) ⟨40, by omega, by omega, rfl, by (have FX := Fx0; exact cl_), fun y hy => by simp at hy⟩ ?_
  rintro r tm' h' k' ⟨i, hi1, hi2, rfl, h6, hall⟩ hag hh hk'
  have b0 : h' nx = some ⟨7, [[.int .i64 0, .int .i64 0, .int .i64 0, .int .i64 0, .int .i64 0, .int .i64 0, .int .i64 0]]⟩ := by rw [hh nx (by omega)]; (have FX := Fx0; exact cl_)
  by_cases hlt : i < 60
  · have hd : decide ((i : Int) < (x.length : Int)) = true := decide_eq_true (by omega)
    have hw : IntKind.i64.wrap (i + 1) = ((i + 1 : Nat) : Int) := by rw [wrapI] <;> omega
    obtain ⟨c, hc⟩ : ∃ c, x[i]? = some c := ⟨_, List.getElem?_eq_getElem (by omega)⟩
    have hcn := numB_get .u8 x i c hc
    have hdr : (x.drop 40)[i - 40]? = some c := by rw [List.getElem?_drop, show 40 + (i - 40) = i by omega]; exact hc
    by_cases hc0 : c = 0
    · have dc : decide (c = 0) = true := decide_eq_true hc0
      have FX := Fx.mk (And.intro @hag <| And.intro @h6 <| And.intro @hd <| And.intro @hw <| And.intro @hcn <| And.intro @dc <| @Bool.not_true)
      repeat (first | refine v_ ?_ | refine u_ ?_ | refine nl_ ?_ | (refine nz_ ?_; first | (show aWp _ _ _ _ _) | skip) | refine sq_ ?_ | refine rg_ ?_ | refine k_ ?_ | refine ct_ ?_ | refine cf_ ?_ | refine bk_ ?_ | refine sc_ ?_ | (refine sk_ ?_; first | (show aWp _ _ _ _ _) | skip) | (refine ex_ ?_; first | (show aWp _ _ _ _ _) | skip) | refine rt_ ?_)
      refine ⟨60 - (i + 1), by omega, ⟨i + 1, by omega, by omega, rfl, by (have FX := Fx0; exact cl_), fun y hy => ?_⟩, ?_, ?_, by first | omega | (simp only; omega), rfl⟩
      · rw [show i + 1 - 40 = (i - 40) + 1 by omega, List.take_add_one, hdr] at hy
        rcases List.mem_append.1 hy with hy | hy
        · exact hall y hy
        · simp at hy; rw [hy]; exact hc0
      · repeat (refine KAgree.upd rfl ?_)
        first | exact KAgree.refl _ _ | exact hag
      · exact (by have FX := Fx.mk (@hh); exact ha_)
    · have dc : decide (c = 0) = false := decide_eq_false hc0
      rw [if_neg (fun q => hc0 (q c (List.mem_of_getElem? hdr)))] at htv
      rw [toldV_zero htv]
      have FX := Fx.mk (And.intro @hag <| And.intro @h6 <| And.intro @hd <| And.intro @hw <| And.intro @hcn <| And.intro @dc <| And.intro @b0 <| @Bool.not_false)
      repeat (first | refine v_ ?_ | refine u_ ?_ | refine nl_ ?_ | (refine nz_ ?_; first | (show aWp _ _ _ _ _) | skip) | refine sq_ ?_ | refine rg_ ?_ | refine k_ ?_ | refine ct_ ?_ | refine cf_ ?_ | refine bk_ ?_ | refine sc_ ?_ | (refine sk_ ?_; first | (show aWp _ _ _ _ _) | skip) | (refine ex_ ?_; first | (show aWp _ _ _ _ _) | skip) | refine rt_ ?_)
      (have FX := Fx.mk (And.intro @hag <| And.intro @b0 <| @hh); exact end_ Tryd.results20)
  obtain rfl : i = 60 := by omega
  have hz : ∀ y ∈ x.drop 40, y = 0 := fun y hy => hall y (by rw [List.take_of_length_le (by simp; omega)]; exact hy)
  rw [if_pos hz] at htv
  have hd : decide (((60 : Nat) : Int) < (x.length : Int)) = false := decide_eq_false (by omega)
  have up := ref01_Unpack4 ((x.drop 4).take 36) (by simp; omega)
  have hun : Pl.unpackGo wid4 ((x.drop 4).take 36) = [Sup.num x 0, Sup.num x 1, Sup.num x 2, Sup.num x 3, Sup.num x 4, Sup.num x 5, Sup.num x 6] := rfl
  have hsl : (x.take 40).drop 4 = (x.drop 4).take 36 := by rw [List.drop_take]
  rw [hun, ← hsl] at up
  have nn := fun i hi => Sup.num_nonneg x i hi
  have u0 := ref04_number _ (nn 0 (by decide))
  have u1 := ref04_number _ (nn 1 (by decide))
  have u2 := ref04_number _ (nn 2 (by decide))
  have u3 := ref04_number _ (nn 3 (by decide))
  have u4 := ref04_number _ (nn 4 (by decide))
  have u5 := ref04_number _ (nn 5 (by decide))
  have u6 := ref04_number _ (nn 6 (by decide))
  obtain ⟨M, hM⟩ : ∃ M : Int, M = 4611686018427387904 := ⟨_, rfl⟩
  rw [← hM] at u0 u1 u2 u3 u4 u5 u6
  have ck := ref04_Check (Sup.clamp M (Sup.raw x))
  have cc : (Sup.clamp M (Sup.raw x)).av = .agg [.int .i64 (Sup.clampN M (Sup.num x 0)), .int .i64 (Sup.clampN M (Sup.num x 1)), .int .i64 (Sup.clampN M (Sup.num x 2)), .int .i64 (Sup.clampN M (Sup.num x 3)), .int .i64 (Sup.clampN M (Sup.num x 4)), .int .i64 (Sup.clampN M (Sup.num x 5)), .int .i64 (Sup.clampN M (Sup.num x 6))] := rfl
  rw [cc] at ck
  have hco := Sup.clamp_ok M (by omega) (Sup.raw x)
  have l40 : (40 : Int) ≤ (x.length : Int) := by omega
  have i40 : Int.toNat 40 = 40 := rfl
  have wd := ref04_widths
  have FX := Fx.mk (And.intro @hag <| And.intro @h6 <| @hd)
  repeat (first | refine v_ ?_ | refine u_ ?_ | refine nl_ ?_ | (refine nz_ ?_; first | (show aWp _ _ _ _ _) | skip) | refine sq_ ?_ | refine rg_ ?_ | refine k_ ?_ | refine ct_ ?_ | refine cf_ ?_ | refine bk_ ?_ | refine sc_ ?_ | (refine sk_ ?_; first | (show aWp _ _ _ _ _) | skip) | (refine ex_ ?_; first | (show aWp _ _ _ _ _) | skip) | refine rt_ ?_)
  have FX := Fx.mk (And.intro @hag <| And.intro @l40 <| @i40)
  refine W_draw mixed rfl rfl ?_
  repeat (first | refine dq_ ?_ | refine df_ (wd) ?_ | refine df_ (up) ?_ | refine dr_ [k'] ?_ | refine dk_ ?_ | refine dn_ ?_)
  refine fun kd hkd => ?_
  simp only [List.length_cons, List.length_nil] at hkd
  first | (show aWp _ _ _ _ _) | skip
  have FX := Fx.mk (@hag)
  repeat (first | refine v_ ?_ | refine u_ ?_ | refine nl_ ?_ | (refine nz_ ?_; first | (show aWp _ _ _ _ _) | skip) | refine sq_ ?_ | refine rg_ ?_ | refine k_ ?_ | refine ct_ ?_ | refine cf_ ?_ | refine bk_ ?_ | refine sc_ ?_ | (refine sk_ ?_; first | (show aWp _ _ _ _ _) | skip) | (refine ex_ ?_; first | (show aWp _ _ _ _ _) | skip) | refine rt_ ?_)
  have FX := Fx.mk (@hag)
  first | refine keep_ (kp_ 2 <| kp_ 3 <| kp_ 7 <| kp0_) ?_ | refine keepO_ (kp_ 2 <| kp_ 3 <| kp_ 7 <| kp0_) ?_
  obtain ⟨k3, hk3⟩ : ∃ p, kd + (0 + 1 + 1 + 1 + 1 + 1 + 1 + 1 + 1 + 1 + 1 + 1 + 1 + 1 + 1 + 1 + 1 + 1 + 1 + 1 + 1 + 1 + 1 + 1 + 1 + 1 + 1 + 1 + 1 + 1) = p := ⟨_, rfl⟩
  have FX := Fx0
  refine W_draw mixed rfl rfl ?_
  repeat (first | refine dq_ ?_ | refine df_ (u0) ?_ | refine df_ (u1) ?_ | refine df_ (u2) ?_ | refine df_ (u3) ?_ | refine df_ (u4) ?_ | refine df_ (u5) ?_ | refine df_ (u6) ?_ | refine dr_ [kd + (0 + 1 + 1 + 1 + 1 + 1 + 1 + 1 + 1 + 1 + 1 + 1 + 1 + 1 + 1 + 1 + 1 + 1 + 1 + 1 + 1 + 1 + 1 + 1 + 1 + 1 + 1 + 1 + 1 + 1)] ?_ | refine dm_ [kd + (0 + 1 + 1 + 1 + 1 + 1 + 1 + 1 + 1 + 1 + 1 + 1 + 1 + 1 + 1 + 1 + 1 + 1 + 1 + 1 + 1 + 1 + 1 + 1 + 1 + 1 + 1 + 1 + 1 + 1)] ?_ | refine da_ [kd + (0 + 1 + 1 + 1 + 1 + 1 + 1 + 1 + 1 + 1 + 1 + 1 + 1 + 1 + 1 + 1 + 1 + 1 + 1 + 1 + 1 + 1 + 1 + 1 + 1 + 1 + 1 + 1 + 1 + 1)] ?_ | refine ds_ [kd + (0 + 1 + 1 + 1 + 1 + 1 + 1 + 1 + 1 + 1 + 1 + 1 + 1 + 1 + 1 + 1 + 1 + 1 + 1 + 1 + 1 + 1 + 1 + 1 + 1 + 1 + 1 + 1 + 1 + 1)] ?_ | refine dw_ [kd + (0 + 1 + 1 + 1 + 1 + 1 + 1 + 1 + 1 + 1 + 1 + 1 + 1 + 1 + 1 + 1 + 1 + 1 + 1 + 1 + 1 + 1 + 1 + 1 + 1 + 1 + 1 + 1 + 1 + 1)] ?_ | refine dk_ ?_ | refine dn_ ?_)
  refine fun kd hkd => ?_
  simp only [List.length_cons, List.length_nil] at hkd
  first | (show aWp _ _ _ _ _) | skip
  by_cases hok : (Sup.raw x).ok
  · rw [show (Sup.clamp M (Sup.raw x)).chk = 0 from if_pos (hco.2 hok)] at ck
    rw [if_pos hok] at htv
    have ceq := Sup.clamp_eq M (by omega) _ hok
    have hv : Sup.toldV b = .tup [.agg [.int .i64 (Sup.clampN M (Sup.num x 0)), .int .i64 (Sup.clampN M (Sup.num x 1)), .int .i64 (Sup.clampN M (Sup.num x 2)), .int .i64 (Sup.clampN M (Sup.num x 3)), .int .i64 (Sup.clampN M (Sup.num x 4)), .int .i64 (Sup.clampN M (Sup.num x 5)), .int .i64 (Sup.clampN M (Sup.num x 6))], .int .i64 0] := by
      unfold Sup.toldV
      rw [htv]
      simp only
      rw [← ceq, cc]
    rw [hv]
    have FX := Fx.mk (And.intro @b0 <| And.intro @d0 <| @Bool.not_true)
    repeat (first | refine v_ ?_ | refine u_ ?_ | refine f_ (ck) fun kf hkf => ?_ | refine nl_ ?_ | (refine nz_ ?_; first | (show aWp _ _ _ _ _) | skip) | refine sq_ ?_ | refine rg_ ?_ | refine k_ ?_ | refine ct_ ?_ | refine cf_ ?_ | refine bk_ ?_ | refine sc_ ?_ | (refine sk_ ?_; first | (show aWp _ _ _ _ _) | skip) | (refine ex_ ?_; first | (show aWp _ _ _ _ _) | skip) | refine rt_ ?_)
    (have FX := Fx.mk (And.intro @b0 <| @hh); exact end_ Tryd.results20)
  · rw [show (Sup.clamp M (Sup.raw x)).chk = 4 from if_neg (fun q => hok (hco.1 q))] at ck
    rw [if_neg hok] at htv
    rw [toldV_zero htv]
    have d4 : decide ((4 : Int) = 0) = false := rfl
    have FX := Fx.mk (And.intro @b0 <| And.intro @d4 <| @Bool.not_false)
    repeat (first | refine v_ ?_ | refine u_ ?_ | refine f_ (ck) fun kf hkf => ?_ | refine nl_ ?_ | (refine nz_ ?_; first | (show aWp _ _ _ _ _) | skip) | refine sq_ ?_ | refine rg_ ?_ | refine k_ ?_ | refine ct_ ?_ | refine cf_ ?_ | refine bk_ ?_ | refine sc_ ?_ | (refine sk_ ?_; first | (show aWp _ _ _ _ _) | skip) | (refine ex_ ?_; first | (show aWp _ _ _ _ _) | skip) | refine rt_ ?_)
    (have FX := Fx.mk (And.intro @b0 <| @hh); exact end_ Tryd.results20)
theorem ref04_Newest (a b : List Int) : aFun Tryd.prog 22 [.sl (numB .u8 a), .sl (numB .u8 b)] (Sup.newerV a b) := by
  have da := ref04_Decode a
  have db := ref04_Decode b
  unfold Sup.toldV at da db
  have q0 : decide ((0 : Int) = 0) = true := rfl
  have zr : Sup.zero.cells = [.int .i64 0, .int .i64 0, .int .i64 0, .int .i64 0, .int .i64 0, .int .i64 0, .int .i64 0] := rfl
  have ca : (Sup.told a).1.av = .agg [.int .i64 (Sup.told a).1.e, .int .i64 (Sup.told a).1.v, .int .i64 (Sup.told a).1.j, .int .i64 (Sup.told a).1.p, .int .i64 (Sup.told a).1.d, .int .i64 (Sup.told a).1.s, .int .i64 (Sup.told a).1.r] := rfl
  have cb : (Sup.told b).1.av = .agg [.int .i64 (Sup.told b).1.e, .int .i64 (Sup.told b).1.v, .int .i64 (Sup.told b).1.j, .int .i64 (Sup.told b).1.p, .int .i64 (Sup.told b).1.d, .int .i64 (Sup.told b).1.s, .int .i64 (Sup.told b).1.r] := rfl
  rw [ca] at da
  rw [cb] at db
  unfold Sup.newerV Sup.newer
  by_cases ha : (Sup.told a).2 = 0
  · rw [if_neg (by simp [ha])]
    rw [ha] at da
    by_cases hb : (Sup.told b).2 = 0
    · rw [hb] at db
      by_cases hlt : (Sup.told a).1.e < (Sup.told b).1.e
      · rw [if_pos (.inr ⟨hb, hlt⟩)]
        have e1 : decide ((Sup.told a).1.e < (Sup.told b).1.e) = true := decide_eq_true hlt
        rw [cb]
        refine aFun_body Tryd.func22 rfl rfl (by simp [Tryd.ntmps22]) fun hreal h nx hfresh => ?_
        rw [Tryd.ntmps22]
        have FX := Fx.mk (And.intro @q0 <| And.intro @e1 <| And.intro @Bool.not_true <| And.intro @Bool.not_false <| @decide_true)
        repeat (first | refine v_ ?_ | refine u_ ?_ | refine f_ (da) fun kf hkf => ?_ | refine f_ (db) fun kf hkf => ?_ | refine nl_ ?_ | (refine nz_ ?_; first | (show aWp _ _ _ _ _) | skip) | refine sq_ ?_ | refine rg_ ?_ | refine k_ ?_ | refine ct_ ?_ | refine cf_ ?_ | refine bk_ ?_ | refine sc_ ?_ | (refine sk_ ?_; first | (show aWp _ _ _ _ _) | skip) | (refine ex_ ?_; first | (show aWp _ _ _ _ _) | skip) | refine rt_ ?_)
        (have FX := Fx0; exact end_ Tryd.results22)
      · rw [if_neg (by rintro (q | ⟨_, q⟩) <;> simp_all)]
        have e1 : decide ((Sup.told a).1.e < (Sup.told b).1.e) = false := decide_eq_false hlt
        rw [ca]
        refine aFun_body Tryd.func22 rfl rfl (by simp [Tryd.ntmps22]) fun hreal h nx hfresh => ?_
        rw [Tryd.ntmps22]
        have FX := Fx.mk (And.intro @q0 <| And.intro @e1 <| And.intro @Bool.not_true <| And.intro @Bool.not_false <| @decide_true)
        repeat (first | refine v_ ?_ | refine u_ ?_ | refine f_ (da) fun kf hkf => ?_ | refine f_ (db) fun kf hkf => ?_ | refine nl_ ?_ | (refine nz_ ?_; first | (show aWp _ _ _ _ _) | skip) | refine sq_ ?_ | refine rg_ ?_ | refine k_ ?_ | refine ct_ ?_ | refine cf_ ?_ | refine bk_ ?_ | refine sc_ ?_ | (refine sk_ ?_; first | (show aWp _ _ _ _ _) | skip) | (refine ex_ ?_; first | (show aWp _ _ _ _ _) | skip) | refine rt_ ?_)
        (have FX := Fx0; exact end_ Tryd.results22)
    · rw [if_neg (by rintro (q | ⟨q, _⟩) <;> simp_all)]
      have e1 : decide ((Sup.told b).2 = 0) = false := decide_eq_false hb
      rw [ca]
      refine aFun_body Tryd.func22 rfl rfl (by simp [Tryd.ntmps22]) fun hreal h nx hfresh => ?_
      rw [Tryd.ntmps22]
      have FX := Fx.mk (And.intro @q0 <| And.intro @e1 <| And.intro @Bool.not_true <| And.intro @Bool.not_false <| @decide_true)
      repeat (first | refine v_ ?_ | refine u_ ?_ | refine f_ (da) fun kf hkf => ?_ | refine f_ (db) fun kf hkf => ?_ | refine nl_ ?_ | (refine nz_ ?_; first | (show aWp _ _ _ _ _) | skip) | refine sq_ ?_ | refine rg_ ?_ | refine k_ ?_ | refine ct_ ?_ | refine cf_ ?_ | refine bk_ ?_ | refine sc_ ?_ | (refine sk_ ?_; first | (show aWp _ _ _ _ _) | skip) | (refine ex_ ?_; first | (show aWp _ _ _ _ _) | skip) | refine rt_ ?_)
      (have FX := Fx0; exact end_ Tryd.results22)
  · have e0 : decide ((Sup.told a).2 = 0) = false := decide_eq_false ha
    by_cases hb : (Sup.told b).2 = 0
    · rw [if_neg (by simp [hb]), if_pos (.inl ha)]
      rw [hb] at db
      rw [cb]
      refine aFun_body Tryd.func22 rfl rfl (by simp [Tryd.ntmps22]) fun hreal h nx hfresh => ?_
      rw [Tryd.ntmps22]
      have FX := Fx.mk (And.intro @e0 <| And.intro @q0 <| And.intro @Bool.not_true <| And.intro @Bool.not_false <| @decide_true)
      repeat (first | refine v_ ?_ | refine u_ ?_ | refine f_ (da) fun kf hkf => ?_ | refine f_ (db) fun kf hkf => ?_ | refine nl_ ?_ | (refine nz_ ?_; first | (show aWp _ _ _ _ _) | skip) | refine sq_ ?_ | refine rg_ ?_ | refine k_ ?_ | refine ct_ ?_ | refine cf_ ?_ | refine bk_ ?_ | refine sc_ ?_ | (refine sk_ ?_; first | (show aWp _ _ _ _ _) | skip) | (refine ex_ ?_; first | (show aWp _ _ _ _ _) | skip) | refine rt_ ?_)
      (have FX := Fx0; exact end_ Tryd.results22)
    · rw [if_pos ⟨ha, hb⟩]
      have e1 : decide ((Sup.told b).2 = 0) = false := decide_eq_false hb
      unfold Sup.av
      rw [zr]
      refine aFun_body Tryd.func22 rfl rfl (by simp [Tryd.ntmps22]) fun hreal h nx hfresh => ?_
      rw [Tryd.ntmps22]
      have FX := Fx.mk (And.intro @e0 <| And.intro @e1 <| And.intro @Bool.not_true <| And.intro @Bool.not_false <| @decide_true)
      repeat (first | refine v_ ?_ | refine u_ ?_ | refine f_ (da) fun kf hkf => ?_ | refine f_ (db) fun kf hkf => ?_ | refine nl_ ?_ | (refine nz_ ?_; first | (show aWp _ _ _ _ _) | skip) | refine sq_ ?_ | refine rg_ ?_ | refine k_ ?_ | refine ct_ ?_ | refine cf_ ?_ | refine bk_ ?_ | refine sc_ ?_ | (refine sk_ ?_; first | (show aWp _ _ _ _ _) | skip) | (refine ex_ ?_; first | (show aWp _ _ _ _ _) | skip) | refine rt_ ?_)
      (have FX := Fx0; exact end_ Tryd.results22)
end Go.Proofs.YtnlanfcboiemaaaDoor.AE
