-- Laid by a program of this session's (wip/hprint.py) over the kit's print, with hand-made texts beside it. Lean checks it.
import Derived.Test.YthkjahoebkicbaaH0
import Derived.Test.YthkjahoebkicbaaH1
import Derived.Test.YthkjahoebkicbaaH2
namespace Go.Proofs.Ythkjahoebkicbaa.Hy
open Go.RowKit Go.Proofs.YthkjahoebkicbaaW.PrintWords Go.Proofs.YthkjahoebkicbaaW.PrintLast Go.Proofs.YthkjahoebkicbaaW.PrintMore
attribute [local go_sem] max2_int min2_int max_two min_two max_three min_three max_four min_four   -- for this text's walks alone
set_option linter.unusedVariables false
set_option linter.unusedSimpArgs false

/-! ### flagstonelaw01_OctetsTells: function 4 -/
def flagstonelaw01_OctetsTells.j0 : Nat → List Int → List Int → ByteArray → Int → Int → ByteArray → Int → Int → Bool → Option (Bool)
  | 0, _, _, _, _, _, _, _, _, _ => none
  | k + 1, x2, x11, x24, x25, x26, x27, x28, x29, x114 => if x114 = true then (some false) else (if x24.toList = x27.toList then (if x25 = x28 then ((flagstonelaw01_num.f x26).bind fun t176 => (if t176 = x29 then ((flagstoneplain_SameBytes.f x11 x2).bind fun t177 => (if t177 = true then ((flagstonelaw01_alive.f k).bind fun t178 => (some t178)) else (some false))) else (some false))) else (some false)) else (some false))
def flagstonelaw01_OctetsTells.f (k : Nat) (a0 : Int) (a1 : Int) (l2 : List Int) (a3 : Int) (a4 : ByteArray) : Option (Bool) := (flagstoneplain_CopyBytes.f l2).bind fun t142 => ((octets_Put.f k a0 a1).bind fun bt145 => ((flagstoneref01_Put.f k a0 a1).bind fun bt149 => ((octets_Get.f t142 a3 a1).bind fun bt153 => ((flagstoneref01_Get.f k l2 a3 a1).bind fun bt155 => ((octets_Text.f a4).bind fun bt157 => ((flagstoneref01_Text.f a4).bind fun bt161 => ((octets_Read.f t142 a3).bind fun bt165 => ((flagstoneref01_Read.f l2 a3).bind fun bt168 => ((flagstoneplain_SameBytes.f bt145.1 bt149.1).bind fun t171 => (if t171 = true then ((flagstonelaw01_num.f bt145.2).bind fun t172 => (if t172 = bt149.2 then (if bt153.1 = bt155.1 then ((flagstonelaw01_num.f bt153.2).bind fun t173 => (if t173 = bt155.2 then ((flagstoneplain_SameBytes.f bt157.1 bt161.1).bind fun t174 => (if t174 = true then ((flagstonelaw01_num.f bt157.2).bind fun t175 => (flagstonelaw01_OctetsTells.j0 k l2 t142 bt165.1 bt165.2.1 bt165.2.2 bt168.1 bt168.2.1 bt168.2.2 (t175 != bt161.2))) else (flagstonelaw01_OctetsTells.j0 k l2 t142 bt165.1 bt165.2.1 bt165.2.2 bt168.1 bt168.2.1 bt168.2.2 true))) else (flagstonelaw01_OctetsTells.j0 k l2 t142 bt165.1 bt165.2.1 bt165.2.2 bt168.1 bt168.2.1 bt168.2.2 true))) else (flagstonelaw01_OctetsTells.j0 k l2 t142 bt165.1 bt165.2.1 bt165.2.2 bt168.1 bt168.2.1 bt168.2.2 true)) else (flagstonelaw01_OctetsTells.j0 k l2 t142 bt165.1 bt165.2.1 bt165.2.2 bt168.1 bt168.2.1 bt168.2.2 true))) else (flagstonelaw01_OctetsTells.j0 k l2 t142 bt165.1 bt165.2.1 bt165.2.2 bt168.1 bt168.2.1 bt168.2.2 true)))))))))))
theorem flagstonelaw01_OctetsTells.mono_l : ∀ k, (∀ y0 y1 y2 y3 y4 y5 y6 y7 y8, LeO (flagstonelaw01_OctetsTells.j0 k y0 y1 y2 y3 y4 y5 y6 y7 y8) (flagstonelaw01_OctetsTells.j0 (k + 1) y0 y1 y2 y3 y4 y5 y6 y7 y8))
  | 0 => fun _ _ _ _ _ _ _ _ _ r h => by simp [flagstonelaw01_OctetsTells.j0] at h
  | k + 1 => by
    have ih0 := flagstonelaw01_OctetsTells.mono_l k
    · intro y0 y1 y2 y3 y4 y5 y6 y7 y8
      unfold flagstonelaw01_OctetsTells.j0
      repeat' first
      | (with_reducible exact ih0 _ _ _ _ _ _ _ _ _)
      | (with_reducible exact flagstonelaw01_alive.mono _)
      | (with_reducible exact flagstoneref01_Get.mono _ _ _ _)
      | (with_reducible exact flagstoneref01_Put.mono _ _ _)
      | (with_reducible exact octets_Put.mono _ _ _)
      | (with_reducible exact LeO.refl _)
      | (with_reducible exact LeO.none _)
      | (with_reducible refine LeO.ite ?_ ?_)
      | (with_reducible refine LeO.bind ?_ (fun _ => ?_))
      | exact ih0 _ _ _ _ _ _ _ _ _
      | exact flagstonelaw01_alive.mono _
      | exact flagstoneref01_Get.mono _ _ _ _
      | exact flagstoneref01_Put.mono _ _ _
      | exact octets_Put.mono _ _ _
      | exact LeO.none _
      | refine LeO.ite ?_ ?_
      | refine LeO.bind ?_ (fun _ => ?_)
theorem flagstonelaw01_OctetsTells.mono : ∀ a0 a1 a2 a3 a4 k, LeO (flagstonelaw01_OctetsTells.f k a0 a1 a2 a3 a4) (flagstonelaw01_OctetsTells.f (k + 1) a0 a1 a2 a3 a4) := by
  intro a0 a1 a2 a3 a4 k
  have ih0 := flagstonelaw01_OctetsTells.mono_l k
  unfold flagstonelaw01_OctetsTells.f
  repeat' first
      | (with_reducible exact ih0 _ _ _ _ _ _ _ _ _)
      | (with_reducible exact flagstonelaw01_alive.mono _)
      | (with_reducible exact flagstoneref01_Get.mono _ _ _ _)
      | (with_reducible exact flagstoneref01_Put.mono _ _ _)
      | (with_reducible exact octets_Put.mono _ _ _)
      | (with_reducible exact LeO.refl _)
      | (with_reducible exact LeO.none _)
      | (with_reducible refine LeO.ite ?_ ?_)
      | (with_reducible refine LeO.bind ?_ (fun _ => ?_))
      | exact ih0 _ _ _ _ _ _ _ _ _
      | exact flagstonelaw01_alive.mono _
      | exact flagstoneref01_Get.mono _ _ _ _
      | exact flagstoneref01_Put.mono _ _ _
      | exact octets_Put.mono _ _ _
      | exact LeO.none _
      | refine LeO.ite ?_ ?_
      | refine LeO.bind ?_ (fun _ => ?_)
set_option maxHeartbeats 8000000 in
set_option maxRecDepth 100000 in
theorem flagstonelaw01_OctetsTells.calls (k : Nat) (a0 : Int) (a1 : Int) (A2 : Option Addr) (c2 : Nat) (l2 : List Int) (a3 : Int) (a4 : ByteArray) (r : Bool) (w : World) (hr2 : Kd.C (Kd.int .u8) w A2 l2.length l2) (hc2 : l2.length ≤ c2) (h : flagstonelaw01_OctetsTells.f k a0 a1 l2 a3 a4 = some r) :
    Calls Try.prog 4 #[.int .u64 a0, .int .i64 a1, .slice A2 l2.length c2, .int .i64 a3, .string a4] w fun e w' => e = .returned (.bool r) ∧ Below w.heap.size w w' := by
  have HR2 := Aside0.mk hr2
  have HC2 := Aside0.mk hc2
  clear hr2 hc2
  have HB := Aside0.mk (Below.refl w.heap.size w)
  have H : ((flagstoneplain_CopyBytes.f l2).bind fun t142 => ((octets_Put.f k a0 a1).bind fun bt145 => ((flagstoneref01_Put.f k a0 a1).bind fun bt149 => ((octets_Get.f t142 a3 a1).bind fun bt153 => ((flagstoneref01_Get.f k l2 a3 a1).bind fun bt155 => ((octets_Text.f a4).bind fun bt157 => ((flagstoneref01_Text.f a4).bind fun bt161 => ((octets_Read.f t142 a3).bind fun bt165 => ((flagstoneref01_Read.f l2 a3).bind fun bt168 => ((flagstoneplain_SameBytes.f bt145.1 bt149.1).bind fun t171 => (if t171 = true then ((flagstonelaw01_num.f bt145.2).bind fun t172 => (if t172 = bt149.2 then (if bt153.1 = bt155.1 then ((flagstonelaw01_num.f bt153.2).bind fun t173 => (if t173 = bt155.2 then ((flagstoneplain_SameBytes.f bt157.1 bt161.1).bind fun t174 => (if t174 = true then ((flagstonelaw01_num.f bt157.2).bind fun t175 => (flagstonelaw01_OctetsTells.j0 k l2 t142 bt165.1 bt165.2.1 bt165.2.2 bt168.1 bt168.2.1 bt168.2.2 (t175 != bt161.2))) else (flagstonelaw01_OctetsTells.j0 k l2 t142 bt165.1 bt165.2.1 bt165.2.2 bt168.1 bt168.2.1 bt168.2.2 true))) else (flagstonelaw01_OctetsTells.j0 k l2 t142 bt165.1 bt165.2.1 bt165.2.2 bt168.1 bt168.2.1 bt168.2.2 true))) else (flagstonelaw01_OctetsTells.j0 k l2 t142 bt165.1 bt165.2.1 bt165.2.2 bt168.1 bt168.2.1 bt168.2.2 true)) else (flagstonelaw01_OctetsTells.j0 k l2 t142 bt165.1 bt165.2.1 bt165.2.2 bt168.1 bt168.2.1 bt168.2.2 true))) else (flagstonelaw01_OctetsTells.j0 k l2 t142 bt165.1 bt165.2.1 bt165.2.2 bt168.1 bt168.2.1 bt168.2.2 true)))))))))))) = some r := h
  clear h
  replace H := Option.bind_eq_some_iff.mp H
  obtain ⟨t142, A60, H⟩ := H
  replace H : ((octets_Put.f k a0 a1).bind fun bt145 => ((flagstoneref01_Put.f k a0 a1).bind fun bt149 => ((octets_Get.f t142 a3 a1).bind fun bt153 => ((flagstoneref01_Get.f k l2 a3 a1).bind fun bt155 => ((octets_Text.f a4).bind fun bt157 => ((flagstoneref01_Text.f a4).bind fun bt161 => ((octets_Read.f t142 a3).bind fun bt165 => ((flagstoneref01_Read.f l2 a3).bind fun bt168 => ((flagstoneplain_SameBytes.f bt145.1 bt149.1).bind fun t171 => (if t171 = true then ((flagstonelaw01_num.f bt145.2).bind fun t172 => (if t172 = bt149.2 then (if bt153.1 = bt155.1 then ((flagstonelaw01_num.f bt153.2).bind fun t173 => (if t173 = bt155.2 then ((flagstoneplain_SameBytes.f bt157.1 bt161.1).bind fun t174 => (if t174 = true then ((flagstonelaw01_num.f bt157.2).bind fun t175 => (flagstonelaw01_OctetsTells.j0 k l2 t142 bt165.1 bt165.2.1 bt165.2.2 bt168.1 bt168.2.1 bt168.2.2 (t175 != bt161.2))) else (flagstonelaw01_OctetsTells.j0 k l2 t142 bt165.1 bt165.2.1 bt165.2.2 bt168.1 bt168.2.1 bt168.2.2 true))) else (flagstonelaw01_OctetsTells.j0 k l2 t142 bt165.1 bt165.2.1 bt165.2.2 bt168.1 bt168.2.1 bt168.2.2 true))) else (flagstonelaw01_OctetsTells.j0 k l2 t142 bt165.1 bt165.2.1 bt165.2.2 bt168.1 bt168.2.1 bt168.2.2 true)) else (flagstonelaw01_OctetsTells.j0 k l2 t142 bt165.1 bt165.2.1 bt165.2.2 bt168.1 bt168.2.1 bt168.2.2 true))) else (flagstonelaw01_OctetsTells.j0 k l2 t142 bt165.1 bt165.2.1 bt165.2.2 bt168.1 bt168.2.1 bt168.2.2 true))))))))))) = some r := H
  have A6 := Aside0.mk A60
  clear A60
  replace H := Option.bind_eq_some_iff.mp H
  obtain ⟨⟨t145, t146⟩, A70, H⟩ := H
  replace H : ((flagstoneref01_Put.f k a0 a1).bind fun bt149 => ((octets_Get.f t142 a3 a1).bind fun bt153 => ((flagstoneref01_Get.f k l2 a3 a1).bind fun bt155 => ((octets_Text.f a4).bind fun bt157 => ((flagstoneref01_Text.f a4).bind fun bt161 => ((octets_Read.f t142 a3).bind fun bt165 => ((flagstoneref01_Read.f l2 a3).bind fun bt168 => ((flagstoneplain_SameBytes.f t145 bt149.1).bind fun t171 => (if t171 = true then ((flagstonelaw01_num.f t146).bind fun t172 => (if t172 = bt149.2 then (if bt153.1 = bt155.1 then ((flagstonelaw01_num.f bt153.2).bind fun t173 => (if t173 = bt155.2 then ((flagstoneplain_SameBytes.f bt157.1 bt161.1).bind fun t174 => (if t174 = true then ((flagstonelaw01_num.f bt157.2).bind fun t175 => (flagstonelaw01_OctetsTells.j0 k l2 t142 bt165.1 bt165.2.1 bt165.2.2 bt168.1 bt168.2.1 bt168.2.2 (t175 != bt161.2))) else (flagstonelaw01_OctetsTells.j0 k l2 t142 bt165.1 bt165.2.1 bt165.2.2 bt168.1 bt168.2.1 bt168.2.2 true))) else (flagstonelaw01_OctetsTells.j0 k l2 t142 bt165.1 bt165.2.1 bt165.2.2 bt168.1 bt168.2.1 bt168.2.2 true))) else (flagstonelaw01_OctetsTells.j0 k l2 t142 bt165.1 bt165.2.1 bt165.2.2 bt168.1 bt168.2.1 bt168.2.2 true)) else (flagstonelaw01_OctetsTells.j0 k l2 t142 bt165.1 bt165.2.1 bt165.2.2 bt168.1 bt168.2.1 bt168.2.2 true))) else (flagstonelaw01_OctetsTells.j0 k l2 t142 bt165.1 bt165.2.1 bt165.2.2 bt168.1 bt168.2.1 bt168.2.2 true)))))))))) = some r := H
  have A7 := Aside0.mk A70
  clear A70
  replace H := Option.bind_eq_some_iff.mp H
  obtain ⟨⟨t149, t150⟩, A80, H⟩ := H
  replace H : ((octets_Get.f t142 a3 a1).bind fun bt153 => ((flagstoneref01_Get.f k l2 a3 a1).bind fun bt155 => ((octets_Text.f a4).bind fun bt157 => ((flagstoneref01_Text.f a4).bind fun bt161 => ((octets_Read.f t142 a3).bind fun bt165 => ((flagstoneref01_Read.f l2 a3).bind fun bt168 => ((flagstoneplain_SameBytes.f t145 t149).bind fun t171 => (if t171 = true then ((flagstonelaw01_num.f t146).bind fun t172 => (if t172 = t150 then (if bt153.1 = bt155.1 then ((flagstonelaw01_num.f bt153.2).bind fun t173 => (if t173 = bt155.2 then ((flagstoneplain_SameBytes.f bt157.1 bt161.1).bind fun t174 => (if t174 = true then ((flagstonelaw01_num.f bt157.2).bind fun t175 => (flagstonelaw01_OctetsTells.j0 k l2 t142 bt165.1 bt165.2.1 bt165.2.2 bt168.1 bt168.2.1 bt168.2.2 (t175 != bt161.2))) else (flagstonelaw01_OctetsTells.j0 k l2 t142 bt165.1 bt165.2.1 bt165.2.2 bt168.1 bt168.2.1 bt168.2.2 true))) else (flagstonelaw01_OctetsTells.j0 k l2 t142 bt165.1 bt165.2.1 bt165.2.2 bt168.1 bt168.2.1 bt168.2.2 true))) else (flagstonelaw01_OctetsTells.j0 k l2 t142 bt165.1 bt165.2.1 bt165.2.2 bt168.1 bt168.2.1 bt168.2.2 true)) else (flagstonelaw01_OctetsTells.j0 k l2 t142 bt165.1 bt165.2.1 bt165.2.2 bt168.1 bt168.2.1 bt168.2.2 true))) else (flagstonelaw01_OctetsTells.j0 k l2 t142 bt165.1 bt165.2.1 bt165.2.2 bt168.1 bt168.2.1 bt168.2.2 true))))))))) = some r := H
  have A8 := Aside0.mk A80
  clear A80
  replace H := Option.bind_eq_some_iff.mp H
  obtain ⟨⟨t153, t154⟩, A90, H⟩ := H
  replace H : ((flagstoneref01_Get.f k l2 a3 a1).bind fun bt155 => ((octets_Text.f a4).bind fun bt157 => ((flagstoneref01_Text.f a4).bind fun bt161 => ((octets_Read.f t142 a3).bind fun bt165 => ((flagstoneref01_Read.f l2 a3).bind fun bt168 => ((flagstoneplain_SameBytes.f t145 t149).bind fun t171 => (if t171 = true then ((flagstonelaw01_num.f t146).bind fun t172 => (if t172 = t150 then (if t153 = bt155.1 then ((flagstonelaw01_num.f t154).bind fun t173 => (if t173 = bt155.2 then ((flagstoneplain_SameBytes.f bt157.1 bt161.1).bind fun t174 => (if t174 = true then ((flagstonelaw01_num.f bt157.2).bind fun t175 => (flagstonelaw01_OctetsTells.j0 k l2 t142 bt165.1 bt165.2.1 bt165.2.2 bt168.1 bt168.2.1 bt168.2.2 (t175 != bt161.2))) else (flagstonelaw01_OctetsTells.j0 k l2 t142 bt165.1 bt165.2.1 bt165.2.2 bt168.1 bt168.2.1 bt168.2.2 true))) else (flagstonelaw01_OctetsTells.j0 k l2 t142 bt165.1 bt165.2.1 bt165.2.2 bt168.1 bt168.2.1 bt168.2.2 true))) else (flagstonelaw01_OctetsTells.j0 k l2 t142 bt165.1 bt165.2.1 bt165.2.2 bt168.1 bt168.2.1 bt168.2.2 true)) else (flagstonelaw01_OctetsTells.j0 k l2 t142 bt165.1 bt165.2.1 bt165.2.2 bt168.1 bt168.2.1 bt168.2.2 true))) else (flagstonelaw01_OctetsTells.j0 k l2 t142 bt165.1 bt165.2.1 bt165.2.2 bt168.1 bt168.2.1 bt168.2.2 true)))))))) = some r := H
  have A9 := Aside0.mk A90
  clear A90
  replace H := Option.bind_eq_some_iff.mp H
  obtain ⟨⟨t155, t156⟩, A100, H⟩ := H
  replace H : ((octets_Text.f a4).bind fun bt157 => ((flagstoneref01_Text.f a4).bind fun bt161 => ((octets_Read.f t142 a3).bind fun bt165 => ((flagstoneref01_Read.f l2 a3).bind fun bt168 => ((flagstoneplain_SameBytes.f t145 t149).bind fun t171 => (if t171 = true then ((flagstonelaw01_num.f t146).bind fun t172 => (if t172 = t150 then (if t153 = t155 then ((flagstonelaw01_num.f t154).bind fun t173 => (if t173 = t156 then ((flagstoneplain_SameBytes.f bt157.1 bt161.1).bind fun t174 => (if t174 = true then ((flagstonelaw01_num.f bt157.2).bind fun t175 => (flagstonelaw01_OctetsTells.j0 k l2 t142 bt165.1 bt165.2.1 bt165.2.2 bt168.1 bt168.2.1 bt168.2.2 (t175 != bt161.2))) else (flagstonelaw01_OctetsTells.j0 k l2 t142 bt165.1 bt165.2.1 bt165.2.2 bt168.1 bt168.2.1 bt168.2.2 true))) else (flagstonelaw01_OctetsTells.j0 k l2 t142 bt165.1 bt165.2.1 bt165.2.2 bt168.1 bt168.2.1 bt168.2.2 true))) else (flagstonelaw01_OctetsTells.j0 k l2 t142 bt165.1 bt165.2.1 bt165.2.2 bt168.1 bt168.2.1 bt168.2.2 true)) else (flagstonelaw01_OctetsTells.j0 k l2 t142 bt165.1 bt165.2.1 bt165.2.2 bt168.1 bt168.2.1 bt168.2.2 true))) else (flagstonelaw01_OctetsTells.j0 k l2 t142 bt165.1 bt165.2.1 bt165.2.2 bt168.1 bt168.2.1 bt168.2.2 true))))))) = some r := H
  have A10 := Aside0.mk A100
  clear A100
  replace H := Option.bind_eq_some_iff.mp H
  obtain ⟨⟨t157, t158⟩, A110, H⟩ := H
  replace H : ((flagstoneref01_Text.f a4).bind fun bt161 => ((octets_Read.f t142 a3).bind fun bt165 => ((flagstoneref01_Read.f l2 a3).bind fun bt168 => ((flagstoneplain_SameBytes.f t145 t149).bind fun t171 => (if t171 = true then ((flagstonelaw01_num.f t146).bind fun t172 => (if t172 = t150 then (if t153 = t155 then ((flagstonelaw01_num.f t154).bind fun t173 => (if t173 = t156 then ((flagstoneplain_SameBytes.f t157 bt161.1).bind fun t174 => (if t174 = true then ((flagstonelaw01_num.f t158).bind fun t175 => (flagstonelaw01_OctetsTells.j0 k l2 t142 bt165.1 bt165.2.1 bt165.2.2 bt168.1 bt168.2.1 bt168.2.2 (t175 != bt161.2))) else (flagstonelaw01_OctetsTells.j0 k l2 t142 bt165.1 bt165.2.1 bt165.2.2 bt168.1 bt168.2.1 bt168.2.2 true))) else (flagstonelaw01_OctetsTells.j0 k l2 t142 bt165.1 bt165.2.1 bt165.2.2 bt168.1 bt168.2.1 bt168.2.2 true))) else (flagstonelaw01_OctetsTells.j0 k l2 t142 bt165.1 bt165.2.1 bt165.2.2 bt168.1 bt168.2.1 bt168.2.2 true)) else (flagstonelaw01_OctetsTells.j0 k l2 t142 bt165.1 bt165.2.1 bt165.2.2 bt168.1 bt168.2.1 bt168.2.2 true))) else (flagstonelaw01_OctetsTells.j0 k l2 t142 bt165.1 bt165.2.1 bt165.2.2 bt168.1 bt168.2.1 bt168.2.2 true)))))) = some r := H
  have A11 := Aside0.mk A110
  clear A110
  replace H := Option.bind_eq_some_iff.mp H
  obtain ⟨⟨t161, t162⟩, A120, H⟩ := H
  replace H : ((octets_Read.f t142 a3).bind fun bt165 => ((flagstoneref01_Read.f l2 a3).bind fun bt168 => ((flagstoneplain_SameBytes.f t145 t149).bind fun t171 => (if t171 = true then ((flagstonelaw01_num.f t146).bind fun t172 => (if t172 = t150 then (if t153 = t155 then ((flagstonelaw01_num.f t154).bind fun t173 => (if t173 = t156 then ((flagstoneplain_SameBytes.f t157 t161).bind fun t174 => (if t174 = true then ((flagstonelaw01_num.f t158).bind fun t175 => (flagstonelaw01_OctetsTells.j0 k l2 t142 bt165.1 bt165.2.1 bt165.2.2 bt168.1 bt168.2.1 bt168.2.2 (t175 != t162))) else (flagstonelaw01_OctetsTells.j0 k l2 t142 bt165.1 bt165.2.1 bt165.2.2 bt168.1 bt168.2.1 bt168.2.2 true))) else (flagstonelaw01_OctetsTells.j0 k l2 t142 bt165.1 bt165.2.1 bt165.2.2 bt168.1 bt168.2.1 bt168.2.2 true))) else (flagstonelaw01_OctetsTells.j0 k l2 t142 bt165.1 bt165.2.1 bt165.2.2 bt168.1 bt168.2.1 bt168.2.2 true)) else (flagstonelaw01_OctetsTells.j0 k l2 t142 bt165.1 bt165.2.1 bt165.2.2 bt168.1 bt168.2.1 bt168.2.2 true))) else (flagstonelaw01_OctetsTells.j0 k l2 t142 bt165.1 bt165.2.1 bt165.2.2 bt168.1 bt168.2.1 bt168.2.2 true))))) = some r := H
  have A12 := Aside0.mk A120
  clear A120
  replace H := Option.bind_eq_some_iff.mp H
  obtain ⟨⟨t165, t166, t167⟩, A130, H⟩ := H
  replace H : ((flagstoneref01_Read.f l2 a3).bind fun bt168 => ((flagstoneplain_SameBytes.f t145 t149).bind fun t171 => (if t171 = true then ((flagstonelaw01_num.f t146).bind fun t172 => (if t172 = t150 then (if t153 = t155 then ((flagstonelaw01_num.f t154).bind fun t173 => (if t173 = t156 then ((flagstoneplain_SameBytes.f t157 t161).bind fun t174 => (if t174 = true then ((flagstonelaw01_num.f t158).bind fun t175 => (flagstonelaw01_OctetsTells.j0 k l2 t142 t165 t166 t167 bt168.1 bt168.2.1 bt168.2.2 (t175 != t162))) else (flagstonelaw01_OctetsTells.j0 k l2 t142 t165 t166 t167 bt168.1 bt168.2.1 bt168.2.2 true))) else (flagstonelaw01_OctetsTells.j0 k l2 t142 t165 t166 t167 bt168.1 bt168.2.1 bt168.2.2 true))) else (flagstonelaw01_OctetsTells.j0 k l2 t142 t165 t166 t167 bt168.1 bt168.2.1 bt168.2.2 true)) else (flagstonelaw01_OctetsTells.j0 k l2 t142 t165 t166 t167 bt168.1 bt168.2.1 bt168.2.2 true))) else (flagstonelaw01_OctetsTells.j0 k l2 t142 t165 t166 t167 bt168.1 bt168.2.1 bt168.2.2 true)))) = some r := H
  have A13 := Aside0.mk A130
  clear A130
  replace H := Option.bind_eq_some_iff.mp H
  obtain ⟨⟨t168, t169, t170⟩, A140, H⟩ := H
  replace H : ((flagstoneplain_SameBytes.f t145 t149).bind fun t171 => (if t171 = true then ((flagstonelaw01_num.f t146).bind fun t172 => (if t172 = t150 then (if t153 = t155 then ((flagstonelaw01_num.f t154).bind fun t173 => (if t173 = t156 then ((flagstoneplain_SameBytes.f t157 t161).bind fun t174 => (if t174 = true then ((flagstonelaw01_num.f t158).bind fun t175 => (flagstonelaw01_OctetsTells.j0 k l2 t142 t165 t166 t167 t168 t169 t170 (t175 != t162))) else (flagstonelaw01_OctetsTells.j0 k l2 t142 t165 t166 t167 t168 t169 t170 true))) else (flagstonelaw01_OctetsTells.j0 k l2 t142 t165 t166 t167 t168 t169 t170 true))) else (flagstonelaw01_OctetsTells.j0 k l2 t142 t165 t166 t167 t168 t169 t170 true)) else (flagstonelaw01_OctetsTells.j0 k l2 t142 t165 t166 t167 t168 t169 t170 true))) else (flagstonelaw01_OctetsTells.j0 k l2 t142 t165 t166 t167 t168 t169 t170 true))) = some r := H
  have A14 := Aside0.mk A140
  clear A140
  have HC15 := Aside0.mk H
  clear H
  go_enter Try.func4, Try.ntmps4
  go_upto_region 10 with (first | ((with_reducible refine gate_callee (f := 15) rfl ?_); refine goesL_ (some 31) rfl rfl Try.func15 (by kernel_rfl) rfl #[.slice A2 l2.length c2] rfl (by (try simp only [List.map_toArray, List.map_cons, List.map_nil]); first | done | rfl | (simp only [List.length_drop, List.length_take]; rfl)) ?_; (with_reducible refine (flagstoneplain_CopyBytes.calls _ _ l2 t142 _ ?side1 ?side2 A6.out).mono ?_); (case side1 => repeat (first | exact HR2.out | (with_reducible refine Kd.C_alloc ?_ _) | (with_reducible refine Kd.C_drewN ?_ _) | (with_reducible refine Kd.C_drew ?_))); (case side2 => exact HC2.out); rintro e w16 ⟨v143, rfl, ho0, hb⟩; refine ⟨_, rfl, ?_⟩; have n0_ := Aside0.mk (Kd.R_lower ho0 (below_size (by repeat (first | (with_reducible first | exact HB.out | apply below_alloc | apply pw_below_drewN | apply below_drew1) | exact HB.out)))); have n1_ := Aside0.mk (below_step (by repeat (first | (with_reducible first | exact HB.out | apply below_alloc | apply pw_below_drewN | apply below_drew1) | exact HB.out)) hb); clear HB; have HO144 := n0_; have HB := n1_; clear n0_ n1_; (try clear hb); (try clear hb2); (try clear hk); (try clear hi); (try clear ho0)) | ((with_reducible refine gate_callee (f := 12) rfl ?_); refine goesL_ (some 35) rfl rfl Try.func12 (by kernel_rfl) rfl #[.int .u64 a0, .int .i64 a1] rfl (by (try simp only [List.map_toArray, List.map_cons, List.map_nil]); first | done | rfl | (simp only [List.length_drop, List.length_take]; rfl)) ?_; (with_reducible refine (octets_Put.calls k a0 a1 t145 t146 _ A7.out).mono ?_); rintro e w17 ⟨v147, rfl, ho0, hb⟩; refine ⟨_, rfl, ?_⟩; have n0_ := Aside0.mk (Kd.R_elder' (by (with_reducible repeat (first | apply Kd.R_alloc | apply Kd.R_drewN | apply Kd.R_drew)); exact HO144.out) (Kd.R_base ho0) hb); have n1_ := Aside0.mk (Kd.R_lower (Kd.R_new' ho0 (Kd.R_lt (by (with_reducible repeat (first | apply Kd.R_alloc | apply Kd.R_drewN | apply Kd.R_drew)); exact HO144.out))) (below_size (by repeat (first | (with_reducible first | exact HB.out | apply below_alloc | apply pw_below_drewN | apply below_drew1) | exact HB.out)))); have n2_ := Aside0.mk (below_step (by repeat (first | (with_reducible first | exact HB.out | apply below_alloc | apply pw_below_drewN | apply below_drew1) | exact HB.out)) hb); clear HO144; clear HB; have HO144 := n0_; have HO148 := n1_; have HB := n2_; clear n0_ n1_ n2_; (try clear hb); (try clear hb2); (try clear hk); (try clear hi); (try clear ho0)) | ((with_reducible refine gate_callee (f := 16) rfl ?_); refine goesL_ (some 41) rfl rfl Try.func16 (by kernel_rfl) rfl #[.int .u64 a0, .int .i64 a1] rfl (by (try simp only [List.map_toArray, List.map_cons, List.map_nil]); first | done | rfl | (simp only [List.length_drop, List.length_take]; rfl)) ?_; (with_reducible refine (flagstoneref01_Put.calls k a0 a1 t149 t150 _ A8.out).mono ?_); rintro e w18 ⟨v151, rfl, ho0, hb⟩; refine ⟨_, rfl, ?_⟩; have n0_ := Aside0.mk (Kd.R_elder' (by (with_reducible repeat (first | apply Kd.R_alloc | apply Kd.R_drewN | apply Kd.R_drew)); exact HO144.out) (Kd.R_base ho0) hb); have n1_ := Aside0.mk (Kd.R_elder' (by (with_reducible repeat (first | apply Kd.R_alloc | apply Kd.R_drewN | apply Kd.R_drew)); exact HO148.out) (Kd.R_base ho0) hb); have n2_ := Aside0.mk (Kd.R_lower (Kd.R_new' (Kd.R_new' ho0 (Kd.R_lt (by (with_reducible repeat (first | apply Kd.R_alloc | apply Kd.R_drewN | apply Kd.R_drew)); exact HO144.out))) (Kd.R_lt (by (with_reducible repeat (first | apply Kd.R_alloc | apply Kd.R_drewN | apply Kd.R_drew)); exact HO148.out))) (below_size (by repeat (first | (with_reducible first | exact HB.out | apply below_alloc | apply pw_below_drewN | apply below_drew1) | exact HB.out)))); have n3_ := Aside0.mk (below_step (by repeat (first | (with_reducible first | exact HB.out | apply below_alloc | apply pw_below_drewN | apply below_drew1) | exact HB.out)) hb); clear HO144; clear HO148; clear HB; have HO144 := n0_; have HO148 := n1_; have HO152 := n2_; have HB := n3_; clear n0_ n1_ n2_ n3_; (try clear hb); (try clear hb2); (try clear hk); (try clear hi); (try clear ho0); obtain ⟨Ao19, co19, eo19⟩ := Kd.R_slice HO144.out; subst eo19) | ((with_reducible refine gate_callee (f := 17) rfl ?_); refine goesL_ (some 48) rfl rfl Try.func17 (by kernel_rfl) rfl #[.slice Ao19 t142.length co19, .int .i64 a3, .int .i64 a1] rfl (by (try simp only [List.map_toArray, List.map_cons, List.map_nil]); first | done | rfl | (simp only [List.length_drop, List.length_take]; rfl)) ?_; (with_reducible refine (octets_Get.calls _ _ t142 a3 a1 t153 t154 _ ?side1 ?side2 A9.out).mono ?_); (case side1 => repeat (first | exact (Kd.R_reads' HO144.out).2.2 | (with_reducible refine Kd.C_alloc ?_ _) | (with_reducible refine Kd.C_drewN ?_ _) | (with_reducible refine Kd.C_drew ?_))); (case side2 => exact (Kd.R_reads' HO144.out).2.1); rintro e w' ⟨rfl, ⟨nd, rfl⟩⟩; refine ⟨_, rfl, ?_⟩) | ((with_reducible refine gate_callee (f := 18) rfl ?_); refine goesL_ (some 55) rfl rfl Try.func18 (by kernel_rfl) rfl #[.slice A2 l2.length c2, .int .i64 a3, .int .i64 a1] rfl (by (try simp only [List.map_toArray, List.map_cons, List.map_nil]); first | done | rfl | (simp only [List.length_drop, List.length_take]; rfl)) ?_; (with_reducible refine (flagstoneref01_Get.calls k _ _ l2 a3 a1 t155 t156 _ ?side1 ?side2 A10.out).mono ?_); (case side1 => repeat (first | exact (Kd.C_below HR2.out (by repeat (first | (with_reducible first | exact HB.out | apply below_alloc | apply pw_below_drewN | apply below_drew1) | exact HB.out))) | (with_reducible refine Kd.C_alloc ?_ _) | (with_reducible refine Kd.C_drewN ?_ _) | (with_reducible refine Kd.C_drew ?_))); (case side2 => exact HC2.out); rintro e w' ⟨rfl, ⟨nd, rfl⟩⟩; refine ⟨_, rfl, ?_⟩) | ((with_reducible refine gate_callee (f := 19) rfl ?_); refine goesL_ (some 60) rfl rfl Try.func19 (by kernel_rfl) rfl #[.string a4] rfl (by (try simp only [List.map_toArray, List.map_cons, List.map_nil]); first | done | rfl | (simp only [List.length_drop, List.length_take]; rfl)) ?_; (with_reducible refine (octets_Text.calls a4 t157 t158 _ A11.out).mono ?_); rintro e w20 ⟨v159, rfl, ho0, hb⟩; refine ⟨_, rfl, ?_⟩; have n0_ := Aside0.mk (Kd.R_elder' (by (with_reducible repeat (first | apply Kd.R_alloc | apply Kd.R_drewN | apply Kd.R_drew)); exact HO144.out) (Kd.R_base ho0) hb); have n1_ := Aside0.mk (Kd.R_elder' (by (with_reducible repeat (first | apply Kd.R_alloc | apply Kd.R_drewN | apply Kd.R_drew)); exact HO148.out) (Kd.R_base ho0) hb); have n2_ := Aside0.mk (Kd.R_elder' (by (with_reducible repeat (first | apply Kd.R_alloc | apply Kd.R_drewN | apply Kd.R_drew)); exact HO152.out) (Kd.R_base ho0) hb); have n3_ := Aside0.mk (Kd.R_lower (Kd.R_new' (Kd.R_new' (Kd.R_new' ho0 (Kd.R_lt (by (with_reducible repeat (first | apply Kd.R_alloc | apply Kd.R_drewN | apply Kd.R_drew)); exact HO144.out))) (Kd.R_lt (by (with_reducible repeat (first | apply Kd.R_alloc | apply Kd.R_drewN | apply Kd.R_drew)); exact HO148.out))) (Kd.R_lt (by (with_reducible repeat (first | apply Kd.R_alloc | apply Kd.R_drewN | apply Kd.R_drew)); exact HO152.out))) (below_size (by repeat (first | (with_reducible first | exact HB.out | apply below_alloc | apply pw_below_drewN | apply below_drew1) | exact HB.out)))); have n4_ := Aside0.mk (below_step (by repeat (first | (with_reducible first | exact HB.out | apply below_alloc | apply pw_below_drewN | apply below_drew1) | exact HB.out)) hb); clear HO144; clear HO148; clear HO152; clear HB; have HO144 := n0_; have HO148 := n1_; have HO152 := n2_; have HO160 := n3_; have HB := n4_; clear n0_ n1_ n2_ n3_ n4_; (try clear hb); (try clear hb2); (try clear hk); (try clear hi); (try clear ho0)) | ((with_reducible refine gate_callee (f := 20) rfl ?_); refine goesL_ (some 65) rfl rfl Try.func20 (by kernel_rfl) rfl #[.string a4] rfl (by (try simp only [List.map_toArray, List.map_cons, List.map_nil]); first | done | rfl | (simp only [List.length_drop, List.length_take]; rfl)) ?_; (with_reducible refine (flagstoneref01_Text.calls a4 t161 t162 _ A12.out).mono ?_); rintro e w21 ⟨v163, rfl, ho0, hb⟩; refine ⟨_, rfl, ?_⟩; have n0_ := Aside0.mk (Kd.R_elder' (by (with_reducible repeat (first | apply Kd.R_alloc | apply Kd.R_drewN | apply Kd.R_drew)); exact HO144.out) (Kd.R_base ho0) hb); have n1_ := Aside0.mk (Kd.R_elder' (by (with_reducible repeat (first | apply Kd.R_alloc | apply Kd.R_drewN | apply Kd.R_drew)); exact HO148.out) (Kd.R_base ho0) hb); have n2_ := Aside0.mk (Kd.R_elder' (by (with_reducible repeat (first | apply Kd.R_alloc | apply Kd.R_drewN | apply Kd.R_drew)); exact HO152.out) (Kd.R_base ho0) hb); have n3_ := Aside0.mk (Kd.R_elder' (by (with_reducible repeat (first | apply Kd.R_alloc | apply Kd.R_drewN | apply Kd.R_drew)); exact HO160.out) (Kd.R_base ho0) hb); have n4_ := Aside0.mk (Kd.R_lower (Kd.R_new' (Kd.R_new' (Kd.R_new' (Kd.R_new' ho0 (Kd.R_lt (by (with_reducible repeat (first | apply Kd.R_alloc | apply Kd.R_drewN | apply Kd.R_drew)); exact HO144.out))) (Kd.R_lt (by (with_reducible repeat (first | apply Kd.R_alloc | apply Kd.R_drewN | apply Kd.R_drew)); exact HO148.out))) (Kd.R_lt (by (with_reducible repeat (first | apply Kd.R_alloc | apply Kd.R_drewN | apply Kd.R_drew)); exact HO152.out))) (Kd.R_lt (by (with_reducible repeat (first | apply Kd.R_alloc | apply Kd.R_drewN | apply Kd.R_drew)); exact HO160.out))) (below_size (by repeat (first | (with_reducible first | exact HB.out | apply below_alloc | apply pw_below_drewN | apply below_drew1) | exact HB.out)))); have n5_ := Aside0.mk (below_step (by repeat (first | (with_reducible first | exact HB.out | apply below_alloc | apply pw_below_drewN | apply below_drew1) | exact HB.out)) hb); clear HO144; clear HO148; clear HO152; clear HO160; clear HB; have HO144 := n0_; have HO148 := n1_; have HO152 := n2_; have HO160 := n3_; have HO164 := n4_; have HB := n5_; clear n0_ n1_ n2_ n3_ n4_ n5_; (try clear hb); (try clear hb2); (try clear hk); (try clear hi); (try clear ho0)) | ((with_reducible refine gate_callee (f := 21) rfl ?_); refine goesL_ (some 71) rfl rfl Try.func21 (by kernel_rfl) rfl #[.slice Ao19 t142.length co19, .int .i64 a3] rfl (by (try simp only [List.map_toArray, List.map_cons, List.map_nil]); first | done | rfl | (simp only [List.length_drop, List.length_take]; rfl)) ?_; (with_reducible refine (octets_Read.calls _ _ t142 a3 t165 t166 t167 _ ?side1 ?side2 A13.out).mono ?_); (case side1 => repeat (first | exact (Kd.R_reads' HO144.out).2.2 | (with_reducible refine Kd.C_alloc ?_ _) | (with_reducible refine Kd.C_drewN ?_ _) | (with_reducible refine Kd.C_drew ?_))); (case side2 => exact (Kd.R_reads' HO144.out).2.1); rintro e w' ⟨rfl, ⟨nd, rfl⟩⟩; refine ⟨_, rfl, ?_⟩) | ((with_reducible refine gate_callee (f := 22) rfl ?_); refine goesL_ (some 78) rfl rfl Try.func22 (by kernel_rfl) rfl #[.slice A2 l2.length c2, .int .i64 a3] rfl (by (try simp only [List.map_toArray, List.map_cons, List.map_nil]); first | done | rfl | (simp only [List.length_drop, List.length_take]; rfl)) ?_; (with_reducible refine (flagstoneref01_Read.calls _ _ l2 a3 t168 t169 t170 _ ?side1 ?side2 A14.out).mono ?_); (case side1 => repeat (first | exact (Kd.C_below HR2.out (by repeat (first | (with_reducible first | exact HB.out | apply below_alloc | apply pw_below_drewN | apply below_drew1) | exact HB.out))) | (with_reducible refine Kd.C_alloc ?_ _) | (with_reducible refine Kd.C_drewN ?_ _) | (with_reducible refine Kd.C_drew ?_))); (case side2 => exact HC2.out); rintro e w' ⟨rfl, ⟨nd, rfl⟩⟩; refine ⟨_, rfl, ?_⟩))
  (try simp only [Act.put, List.setIfInBounds_toArray, List.set_cons_zero, List.set_cons_succ])
  go_cut [114] (fun v114 wc => ∃ (kq : Nat) (x114_14 : Bool), v114 = .bool x114_14 ∧ Aside0 (flagstonelaw01_OctetsTells.j0 kq l2 t142 t165 t166 t167 t168 t169 t170 x114_14 = some r) ∧ Aside0 (kq ≤ k) ∧ Aside0 (Kd.R (Kd.int .u8) 5 wc w.heap.size (fun _ => True) (.slice Ao19 t142.length co19) t142) ∧ Aside0 (Below w.heap.size w wc))
  case first =>
    have H := HC15.out
    clear HC15
    replace H := Option.bind_eq_some_iff.mp H
    obtain ⟨t171, A220, H⟩ := H
    replace H : (if t171 = true then ((flagstonelaw01_num.f t146).bind fun t172 => (if t172 = t150 then (if t153 = t155 then ((flagstonelaw01_num.f t154).bind fun t173 => (if t173 = t156 then ((flagstoneplain_SameBytes.f t157 t161).bind fun t174 => (if t174 = true then ((flagstonelaw01_num.f t158).bind fun t175 => (flagstonelaw01_OctetsTells.j0 k l2 t142 t165 t166 t167 t168 t169 t170 (t175 != t162))) else (flagstonelaw01_OctetsTells.j0 k l2 t142 t165 t166 t167 t168 t169 t170 true))) else (flagstonelaw01_OctetsTells.j0 k l2 t142 t165 t166 t167 t168 t169 t170 true))) else (flagstonelaw01_OctetsTells.j0 k l2 t142 t165 t166 t167 t168 t169 t170 true)) else (flagstonelaw01_OctetsTells.j0 k l2 t142 t165 t166 t167 t168 t169 t170 true))) else (flagstonelaw01_OctetsTells.j0 k l2 t142 t165 t166 t167 t168 t169 t170 true)) = some r := H
    have A22 := Aside0.mk A220
    clear A220
    by_cases c23 : t171 = true
    · subst c23
      have H1 : ((flagstonelaw01_num.f t146).bind fun t172 => (if t172 = t150 then (if t153 = t155 then ((flagstonelaw01_num.f t154).bind fun t173 => (if t173 = t156 then ((flagstoneplain_SameBytes.f t157 t161).bind fun t174 => (if t174 = true then ((flagstonelaw01_num.f t158).bind fun t175 => (flagstonelaw01_OctetsTells.j0 k l2 t142 t165 t166 t167 t168 t169 t170 (t175 != t162))) else (flagstonelaw01_OctetsTells.j0 k l2 t142 t165 t166 t167 t168 t169 t170 true))) else (flagstonelaw01_OctetsTells.j0 k l2 t142 t165 t166 t167 t168 t169 t170 true))) else (flagstonelaw01_OctetsTells.j0 k l2 t142 t165 t166 t167 t168 t169 t170 true)) else (flagstonelaw01_OctetsTells.j0 k l2 t142 t165 t166 t167 t168 t169 t170 true))) = some r := by rw [if_pos rfl] at H; exact H
      clear H
      have H := H1
      clear H1
      replace H := Option.bind_eq_some_iff.mp H
      obtain ⟨t172, A240, H⟩ := H
      replace H : (if t172 = t150 then (if t153 = t155 then ((flagstonelaw01_num.f t154).bind fun t173 => (if t173 = t156 then ((flagstoneplain_SameBytes.f t157 t161).bind fun t174 => (if t174 = true then ((flagstonelaw01_num.f t158).bind fun t175 => (flagstonelaw01_OctetsTells.j0 k l2 t142 t165 t166 t167 t168 t169 t170 (t175 != t162))) else (flagstonelaw01_OctetsTells.j0 k l2 t142 t165 t166 t167 t168 t169 t170 true))) else (flagstonelaw01_OctetsTells.j0 k l2 t142 t165 t166 t167 t168 t169 t170 true))) else (flagstonelaw01_OctetsTells.j0 k l2 t142 t165 t166 t167 t168 t169 t170 true)) else (flagstonelaw01_OctetsTells.j0 k l2 t142 t165 t166 t167 t168 t169 t170 true)) = some r := H
      have A24 := Aside0.mk A240
      clear A240
      by_cases c25 : t172 = t150
      · rw [if_pos c25] at H
        have c25b0 : (t172 == t150) = true := beq_iff_eq.mpr c25
        have c25b1 : (t172 != t150) = false := bne_eq_false_iff_eq.mpr c25
        clear c25
        (first | rw [c25b0] | (simp only [i64_w, i32_w]; rw [c25b0]) | skip)
        by_cases c26 : t153 = t155
        · rw [if_pos c26] at H
          have c26b0 : (t153 == t155) = true := beq_iff_eq.mpr c26
          have c26b1 : (t153 != t155) = false := bne_eq_false_iff_eq.mpr c26
          clear c26
          replace H := Option.bind_eq_some_iff.mp H
          obtain ⟨t173, A270, H⟩ := H
          replace H : (if t173 = t156 then ((flagstoneplain_SameBytes.f t157 t161).bind fun t174 => (if t174 = true then ((flagstonelaw01_num.f t158).bind fun t175 => (flagstonelaw01_OctetsTells.j0 k l2 t142 t165 t166 t167 t168 t169 t170 (t175 != t162))) else (flagstonelaw01_OctetsTells.j0 k l2 t142 t165 t166 t167 t168 t169 t170 true))) else (flagstonelaw01_OctetsTells.j0 k l2 t142 t165 t166 t167 t168 t169 t170 true)) = some r := H
          have A27 := Aside0.mk A270
          clear A270
          by_cases c28 : t173 = t156
          · rw [if_pos c28] at H
            have c28b0 : (t173 == t156) = true := beq_iff_eq.mpr c28
            have c28b1 : (t173 != t156) = false := bne_eq_false_iff_eq.mpr c28
            clear c28
            replace H := Option.bind_eq_some_iff.mp H
            obtain ⟨t174, A290, H⟩ := H
            replace H : (if t174 = true then ((flagstonelaw01_num.f t158).bind fun t175 => (flagstonelaw01_OctetsTells.j0 k l2 t142 t165 t166 t167 t168 t169 t170 (t175 != t162))) else (flagstonelaw01_OctetsTells.j0 k l2 t142 t165 t166 t167 t168 t169 t170 true)) = some r := H
            have A29 := Aside0.mk A290
            clear A290
            by_cases c30 : t174 = true
            · subst c30
              have H1 : ((flagstonelaw01_num.f t158).bind fun t175 => (flagstonelaw01_OctetsTells.j0 k l2 t142 t165 t166 t167 t168 t169 t170 (t175 != t162))) = some r := by rw [if_pos rfl] at H; exact H
              clear H
              have H := H1
              clear H1
              replace H := Option.bind_eq_some_iff.mp H
              obtain ⟨t175, A310, H⟩ := H
              replace H : (flagstonelaw01_OctetsTells.j0 k l2 t142 t165 t166 t167 t168 t169 t170 (t175 != t162)) = some r := H
              have A31 := Aside0.mk A310
              clear A310
              have H' := Aside0.mk H
              clear H
              obtain ⟨Ao32, co32, eo32⟩ := Kd.R_slice HO148.out
              subst eo32
              obtain ⟨Ao33, co33, eo33⟩ := Kd.R_slice HO152.out
              subst eo33
              go_wp2_with (first | ((with_reducible refine gate_callee (f := 14) rfl ?_); refine goesL_ (some 84) rfl rfl Try.func14 (by kernel_rfl) rfl #[.slice Ao32 t145.length co32, .slice Ao33 t149.length co33] rfl (by (try simp only [List.map_toArray, List.map_cons, List.map_nil]); first | done | rfl | (simp only [List.length_drop, List.length_take]; rfl)) ?_; (with_reducible refine (flagstoneplain_SameBytes.calls _ _ t145 _ _ t149 true _ ?side1 ?side2 ?side3 ?side4 A22.out).mono ?_); (case side1 => repeat (first | exact (Kd.R_reads' HO148.out).2.2 | (with_reducible refine Kd.C_alloc ?_ _) | (with_reducible refine Kd.C_drewN ?_ _) | (with_reducible refine Kd.C_drew ?_))); (case side2 => exact (Kd.R_reads' HO148.out).2.1); (case side3 => repeat (first | exact (Kd.R_reads' HO152.out).2.2 | (with_reducible refine Kd.C_alloc ?_ _) | (with_reducible refine Kd.C_drewN ?_ _) | (with_reducible refine Kd.C_drew ?_))); (case side4 => exact (Kd.R_reads' HO152.out).2.1); rintro e w' ⟨rfl, ⟨nd, rfl⟩⟩; refine ⟨_, rfl, ?_⟩) | (go_at_call 13; (with_reducible refine (flagstonelaw01_num.calls t146 t172 _ A24.out).mono ?_); rintro e w' ⟨rfl, ⟨nd, rfl⟩⟩) | (go_at_call 13; (with_reducible refine (flagstonelaw01_num.calls t154 t173 _ A27.out).mono ?_); rintro e w' ⟨rfl, ⟨nd, rfl⟩⟩; obtain ⟨Ao34, co34, eo34⟩ := Kd.R_slice HO160.out; subst eo34; obtain ⟨Ao35, co35, eo35⟩ := Kd.R_slice HO164.out; subst eo35) | (go_at_call 14; (with_reducible refine (flagstoneplain_SameBytes.calls _ _ t157 _ _ t161 true _ ?side1 ?side2 ?side3 ?side4 A29.out).mono ?_); (case side1 => repeat (first | exact (Kd.R_reads' HO160.out).2.2 | (with_reducible refine Kd.C_alloc ?_ _) | (with_reducible refine Kd.C_drewN ?_ _) | (with_reducible refine Kd.C_drew ?_))); (case side2 => exact (Kd.R_reads' HO160.out).2.1); (case side3 => repeat (first | exact (Kd.R_reads' HO164.out).2.2 | (with_reducible refine Kd.C_alloc ?_ _) | (with_reducible refine Kd.C_drewN ?_ _) | (with_reducible refine Kd.C_drew ?_))); (case side4 => exact (Kd.R_reads' HO164.out).2.1); rintro e w' ⟨rfl, ⟨nd, rfl⟩⟩) | (go_at_call 13; (with_reducible refine (flagstonelaw01_num.calls t158 t175 _ A31.out).mono ?_); rintro e w' ⟨rfl, ⟨nd, rfl⟩⟩))
              go_meet
              case rel => exact ⟨_, ((t175 != t162)), (by first | rfl | (simp; done) | (simp [*]; done)), H', ⟨by first | omega | exact Nat.le_refl _⟩, ⟨by (with_reducible repeat (first | apply Kd.R_alloc | apply Kd.R_drewN | apply Kd.R_drew)); exact Kd.R_mono HO144.out (fun _ hk => trivial)⟩, ⟨by repeat (first | (with_reducible first | exact HB.out | apply below_alloc | apply pw_below_drewN | apply below_drew1) | exact HB.out)⟩⟩
            · replace c30 := Bool.eq_false_iff.mpr c30
              subst c30
              have H1 : (flagstonelaw01_OctetsTells.j0 k l2 t142 t165 t166 t167 t168 t169 t170 true) = some r := by rw [if_neg (show ¬ (false = true) by decide)] at H; exact H
              clear H
              have H := H1
              clear H1
              have H' := Aside0.mk H
              clear H
              obtain ⟨Ao36, co36, eo36⟩ := Kd.R_slice HO148.out
              subst eo36
              obtain ⟨Ao37, co37, eo37⟩ := Kd.R_slice HO152.out
              subst eo37
              go_wp2_with (first | ((with_reducible refine gate_callee (f := 14) rfl ?_); refine goesL_ (some 84) rfl rfl Try.func14 (by kernel_rfl) rfl #[.slice Ao36 t145.length co36, .slice Ao37 t149.length co37] rfl (by (try simp only [List.map_toArray, List.map_cons, List.map_nil]); first | done | rfl | (simp only [List.length_drop, List.length_take]; rfl)) ?_; (with_reducible refine (flagstoneplain_SameBytes.calls _ _ t145 _ _ t149 true _ ?side1 ?side2 ?side3 ?side4 A22.out).mono ?_); (case side1 => repeat (first | exact (Kd.R_reads' HO148.out).2.2 | (with_reducible refine Kd.C_alloc ?_ _) | (with_reducible refine Kd.C_drewN ?_ _) | (with_reducible refine Kd.C_drew ?_))); (case side2 => exact (Kd.R_reads' HO148.out).2.1); (case side3 => repeat (first | exact (Kd.R_reads' HO152.out).2.2 | (with_reducible refine Kd.C_alloc ?_ _) | (with_reducible refine Kd.C_drewN ?_ _) | (with_reducible refine Kd.C_drew ?_))); (case side4 => exact (Kd.R_reads' HO152.out).2.1); rintro e w' ⟨rfl, ⟨nd, rfl⟩⟩; refine ⟨_, rfl, ?_⟩) | (go_at_call 13; (with_reducible refine (flagstonelaw01_num.calls t146 t172 _ A24.out).mono ?_); rintro e w' ⟨rfl, ⟨nd, rfl⟩⟩) | (go_at_call 13; (with_reducible refine (flagstonelaw01_num.calls t154 t173 _ A27.out).mono ?_); rintro e w' ⟨rfl, ⟨nd, rfl⟩⟩; obtain ⟨Ao38, co38, eo38⟩ := Kd.R_slice HO160.out; subst eo38; obtain ⟨Ao39, co39, eo39⟩ := Kd.R_slice HO164.out; subst eo39) | (go_at_call 14; (with_reducible refine (flagstoneplain_SameBytes.calls _ _ t157 _ _ t161 false _ ?side1 ?side2 ?side3 ?side4 A29.out).mono ?_); (case side1 => repeat (first | exact (Kd.R_reads' HO160.out).2.2 | (with_reducible refine Kd.C_alloc ?_ _) | (with_reducible refine Kd.C_drewN ?_ _) | (with_reducible refine Kd.C_drew ?_))); (case side2 => exact (Kd.R_reads' HO160.out).2.1); (case side3 => repeat (first | exact (Kd.R_reads' HO164.out).2.2 | (with_reducible refine Kd.C_alloc ?_ _) | (with_reducible refine Kd.C_drewN ?_ _) | (with_reducible refine Kd.C_drew ?_))); (case side4 => exact (Kd.R_reads' HO164.out).2.1); rintro e w' ⟨rfl, ⟨nd, rfl⟩⟩))
              go_meet
              case rel => exact ⟨_, (true), (by first | rfl | (simp; done) | (simp [*]; done)), H', ⟨by first | omega | exact Nat.le_refl _⟩, ⟨by (with_reducible repeat (first | apply Kd.R_alloc | apply Kd.R_drewN | apply Kd.R_drew)); exact Kd.R_mono HO144.out (fun _ hk => trivial)⟩, ⟨by repeat (first | (with_reducible first | exact HB.out | apply below_alloc | apply pw_below_drewN | apply below_drew1) | exact HB.out)⟩⟩
          · rw [if_neg c28] at H
            have c28b0 : (t173 == t156) = false := beq_eq_false_iff_ne.mpr c28
            have c28b1 : (t173 != t156) = true := bne_iff_ne.mpr c28
            have H' := Aside0.mk H
            clear H
            obtain ⟨Ao40, co40, eo40⟩ := Kd.R_slice HO148.out
            subst eo40
            obtain ⟨Ao41, co41, eo41⟩ := Kd.R_slice HO152.out
            subst eo41
            go_wp2_with (first | ((with_reducible refine gate_callee (f := 14) rfl ?_); refine goesL_ (some 84) rfl rfl Try.func14 (by kernel_rfl) rfl #[.slice Ao40 t145.length co40, .slice Ao41 t149.length co41] rfl (by (try simp only [List.map_toArray, List.map_cons, List.map_nil]); first | done | rfl | (simp only [List.length_drop, List.length_take]; rfl)) ?_; (with_reducible refine (flagstoneplain_SameBytes.calls _ _ t145 _ _ t149 true _ ?side1 ?side2 ?side3 ?side4 A22.out).mono ?_); (case side1 => repeat (first | exact (Kd.R_reads' HO148.out).2.2 | (with_reducible refine Kd.C_alloc ?_ _) | (with_reducible refine Kd.C_drewN ?_ _) | (with_reducible refine Kd.C_drew ?_))); (case side2 => exact (Kd.R_reads' HO148.out).2.1); (case side3 => repeat (first | exact (Kd.R_reads' HO152.out).2.2 | (with_reducible refine Kd.C_alloc ?_ _) | (with_reducible refine Kd.C_drewN ?_ _) | (with_reducible refine Kd.C_drew ?_))); (case side4 => exact (Kd.R_reads' HO152.out).2.1); rintro e w' ⟨rfl, ⟨nd, rfl⟩⟩; refine ⟨_, rfl, ?_⟩) | (go_at_call 13; (with_reducible refine (flagstonelaw01_num.calls t146 t172 _ A24.out).mono ?_); rintro e w' ⟨rfl, ⟨nd, rfl⟩⟩) | (go_at_call 13; (with_reducible refine (flagstonelaw01_num.calls t154 t173 _ A27.out).mono ?_); rintro e w' ⟨rfl, ⟨nd, rfl⟩⟩))
            go_meet
            case rel => exact ⟨_, (true), (by first | rfl | (simp; done) | (simp [*]; done)), H', ⟨by first | omega | exact Nat.le_refl _⟩, ⟨by (with_reducible repeat (first | apply Kd.R_alloc | apply Kd.R_drewN | apply Kd.R_drew)); exact Kd.R_mono HO144.out (fun _ hk => trivial)⟩, ⟨by repeat (first | (with_reducible first | exact HB.out | apply below_alloc | apply pw_below_drewN | apply below_drew1) | exact HB.out)⟩⟩
        · rw [if_neg c26] at H
          have c26b0 : (t153 == t155) = false := beq_eq_false_iff_ne.mpr c26
          have c26b1 : (t153 != t155) = true := bne_iff_ne.mpr c26
          have H' := Aside0.mk H
          clear H
          obtain ⟨Ao42, co42, eo42⟩ := Kd.R_slice HO148.out
          subst eo42
          obtain ⟨Ao43, co43, eo43⟩ := Kd.R_slice HO152.out
          subst eo43
          go_wp2_with (first | ((with_reducible refine gate_callee (f := 14) rfl ?_); refine goesL_ (some 84) rfl rfl Try.func14 (by kernel_rfl) rfl #[.slice Ao42 t145.length co42, .slice Ao43 t149.length co43] rfl (by (try simp only [List.map_toArray, List.map_cons, List.map_nil]); first | done | rfl | (simp only [List.length_drop, List.length_take]; rfl)) ?_; (with_reducible refine (flagstoneplain_SameBytes.calls _ _ t145 _ _ t149 true _ ?side1 ?side2 ?side3 ?side4 A22.out).mono ?_); (case side1 => repeat (first | exact (Kd.R_reads' HO148.out).2.2 | (with_reducible refine Kd.C_alloc ?_ _) | (with_reducible refine Kd.C_drewN ?_ _) | (with_reducible refine Kd.C_drew ?_))); (case side2 => exact (Kd.R_reads' HO148.out).2.1); (case side3 => repeat (first | exact (Kd.R_reads' HO152.out).2.2 | (with_reducible refine Kd.C_alloc ?_ _) | (with_reducible refine Kd.C_drewN ?_ _) | (with_reducible refine Kd.C_drew ?_))); (case side4 => exact (Kd.R_reads' HO152.out).2.1); rintro e w' ⟨rfl, ⟨nd, rfl⟩⟩; refine ⟨_, rfl, ?_⟩) | (go_at_call 13; (with_reducible refine (flagstonelaw01_num.calls t146 t172 _ A24.out).mono ?_); rintro e w' ⟨rfl, ⟨nd, rfl⟩⟩))
          go_meet
          case rel => exact ⟨_, (true), (by first | rfl | (simp; done) | (simp [*]; done)), H', ⟨by first | omega | exact Nat.le_refl _⟩, ⟨by (with_reducible repeat (first | apply Kd.R_alloc | apply Kd.R_drewN | apply Kd.R_drew)); exact Kd.R_mono HO144.out (fun _ hk => trivial)⟩, ⟨by repeat (first | (with_reducible first | exact HB.out | apply below_alloc | apply pw_below_drewN | apply below_drew1) | exact HB.out)⟩⟩
      · rw [if_neg c25] at H
        have c25b0 : (t172 == t150) = false := beq_eq_false_iff_ne.mpr c25
        have c25b1 : (t172 != t150) = true := bne_iff_ne.mpr c25
        (first | rw [c25b0] | (simp only [i64_w, i32_w]; rw [c25b0]) | skip)
        have H' := Aside0.mk H
        clear H
        obtain ⟨Ao44, co44, eo44⟩ := Kd.R_slice HO148.out
        subst eo44
        obtain ⟨Ao45, co45, eo45⟩ := Kd.R_slice HO152.out
        subst eo45
        go_wp2_with (first | ((with_reducible refine gate_callee (f := 14) rfl ?_); refine goesL_ (some 84) rfl rfl Try.func14 (by kernel_rfl) rfl #[.slice Ao44 t145.length co44, .slice Ao45 t149.length co45] rfl (by (try simp only [List.map_toArray, List.map_cons, List.map_nil]); first | done | rfl | (simp only [List.length_drop, List.length_take]; rfl)) ?_; (with_reducible refine (flagstoneplain_SameBytes.calls _ _ t145 _ _ t149 true _ ?side1 ?side2 ?side3 ?side4 A22.out).mono ?_); (case side1 => repeat (first | exact (Kd.R_reads' HO148.out).2.2 | (with_reducible refine Kd.C_alloc ?_ _) | (with_reducible refine Kd.C_drewN ?_ _) | (with_reducible refine Kd.C_drew ?_))); (case side2 => exact (Kd.R_reads' HO148.out).2.1); (case side3 => repeat (first | exact (Kd.R_reads' HO152.out).2.2 | (with_reducible refine Kd.C_alloc ?_ _) | (with_reducible refine Kd.C_drewN ?_ _) | (with_reducible refine Kd.C_drew ?_))); (case side4 => exact (Kd.R_reads' HO152.out).2.1); rintro e w' ⟨rfl, ⟨nd, rfl⟩⟩; refine ⟨_, rfl, ?_⟩) | (go_at_call 13; (with_reducible refine (flagstonelaw01_num.calls t146 t172 _ A24.out).mono ?_); rintro e w' ⟨rfl, ⟨nd, rfl⟩⟩))
        go_meet
        case rel => exact ⟨_, (true), (by first | rfl | (simp; done) | (simp [*]; done)), H', ⟨by first | omega | exact Nat.le_refl _⟩, ⟨by (with_reducible repeat (first | apply Kd.R_alloc | apply Kd.R_drewN | apply Kd.R_drew)); exact Kd.R_mono HO144.out (fun _ hk => trivial)⟩, ⟨by repeat (first | (with_reducible first | exact HB.out | apply below_alloc | apply pw_below_drewN | apply below_drew1) | exact HB.out)⟩⟩
    · replace c23 := Bool.eq_false_iff.mpr c23
      subst c23
      have H1 : (flagstonelaw01_OctetsTells.j0 k l2 t142 t165 t166 t167 t168 t169 t170 true) = some r := by rw [if_neg (show ¬ (false = true) by decide)] at H; exact H
      clear H
      have H := H1
      clear H1
      have H' := Aside0.mk H
      clear H
      obtain ⟨Ao46, co46, eo46⟩ := Kd.R_slice HO148.out
      subst eo46
      obtain ⟨Ao47, co47, eo47⟩ := Kd.R_slice HO152.out
      subst eo47
      go_wp2_with (first | ((with_reducible refine gate_callee (f := 14) rfl ?_); refine goesL_ (some 84) rfl rfl Try.func14 (by kernel_rfl) rfl #[.slice Ao46 t145.length co46, .slice Ao47 t149.length co47] rfl (by (try simp only [List.map_toArray, List.map_cons, List.map_nil]); first | done | rfl | (simp only [List.length_drop, List.length_take]; rfl)) ?_; (with_reducible refine (flagstoneplain_SameBytes.calls _ _ t145 _ _ t149 false _ ?side1 ?side2 ?side3 ?side4 A22.out).mono ?_); (case side1 => repeat (first | exact (Kd.R_reads' HO148.out).2.2 | (with_reducible refine Kd.C_alloc ?_ _) | (with_reducible refine Kd.C_drewN ?_ _) | (with_reducible refine Kd.C_drew ?_))); (case side2 => exact (Kd.R_reads' HO148.out).2.1); (case side3 => repeat (first | exact (Kd.R_reads' HO152.out).2.2 | (with_reducible refine Kd.C_alloc ?_ _) | (with_reducible refine Kd.C_drewN ?_ _) | (with_reducible refine Kd.C_drew ?_))); (case side4 => exact (Kd.R_reads' HO152.out).2.1); rintro e w' ⟨rfl, ⟨nd, rfl⟩⟩; refine ⟨_, rfl, ?_⟩))
      go_meet
      case rel => exact ⟨_, (true), (by first | rfl | (simp; done) | (simp [*]; done)), H', ⟨by first | omega | exact Nat.le_refl _⟩, ⟨by (with_reducible repeat (first | apply Kd.R_alloc | apply Kd.R_drewN | apply Kd.R_drew)); exact Kd.R_mono HO144.out (fun _ hk => trivial)⟩, ⟨by repeat (first | (with_reducible first | exact HB.out | apply below_alloc | apply pw_below_drewN | apply below_drew1) | exact HB.out)⟩⟩
  case rest =>
    clear HC15
    try clear c1
    try clear c2
    try clear p2
    try clear c3
    try clear c4
    try clear c12
    try clear c14
    try clear c15
    try clear c16
    try clear c17
    try clear c18
    try clear c19
    try clear c20
    try clear c21
    try clear c22
    try clear c23
    try clear c25
    try clear c25b0
    try clear c25b1
    try clear c26
    try clear c26b0
    try clear c26b1
    try clear c28
    try clear c28b0
    try clear c28b1
    try clear c30
    obtain ⟨kq, x114_14, rfl, HA, HJ14, HO_11, HB⟩ := hcut
    cases kq with
    | zero => exact absurd HA.out (by simp [flagstonelaw01_OctetsTells.j0])
    | succ kj14 =>
      have H := HA.out
      clear HA
      simp only [flagstonelaw01_OctetsTells.j0] at H
      by_cases c48 : x114_14 = true
      · subst c48
        have H1 : (some false) = some r := by rw [if_pos rfl] at H; exact H
        clear H
        have H := H1
        clear H1
        obtain rfl := Option.some.inj H
        go_wp2
        go_ret
        exact ⟨by first | rfl | (simp [errW_none, errW_some] <;> rfl) | (simp [*, errW_none, errW_some] <;> rfl), by repeat (first | (with_reducible first | exact HB.out | apply below_alloc | apply pw_below_drewN | apply below_drew1) | exact HB.out)⟩
      · replace c48 := Bool.eq_false_iff.mpr c48
        subst c48
        have H1 : (if t165.toList = t168.toList then (if t166 = t169 then ((flagstonelaw01_num.f t167).bind fun t176 => (if t176 = t170 then ((flagstoneplain_SameBytes.f t142 l2).bind fun t177 => (if t177 = true then ((flagstonelaw01_alive.f kj14).bind fun t178 => (some t178)) else (some false))) else (some false))) else (some false)) else (some false)) = some r := by rw [if_neg (show ¬ (false = true) by decide)] at H; exact H
        clear H
        have H := H1
        clear H1
        by_cases c49 : t165.toList = t168.toList
        · rw [if_pos c49] at H
          have c49b0 : (t165.toList == t168.toList) = true := beq_iff_eq.mpr c49
          have c49b1 : (t165.toList != t168.toList) = false := bne_eq_false_iff_eq.mpr c49
          clear c49
          by_cases c50 : t166 = t169
          · rw [if_pos c50] at H
            have c50b0 : (t166 == t169) = true := beq_iff_eq.mpr c50
            have c50b1 : (t166 != t169) = false := bne_eq_false_iff_eq.mpr c50
            clear c50
            replace H := Option.bind_eq_some_iff.mp H
            obtain ⟨t176, A510, H⟩ := H
            replace H : (if t176 = t170 then ((flagstoneplain_SameBytes.f t142 l2).bind fun t177 => (if t177 = true then ((flagstonelaw01_alive.f kj14).bind fun t178 => (some t178)) else (some false))) else (some false)) = some r := H
            have A51 := Aside0.mk A510
            clear A510
            by_cases c52 : t176 = t170
            · rw [if_pos c52] at H
              have c52b0 : (t176 == t170) = true := beq_iff_eq.mpr c52
              have c52b1 : (t176 != t170) = false := bne_eq_false_iff_eq.mpr c52
              clear c52
              replace H := Option.bind_eq_some_iff.mp H
              obtain ⟨t177, A530, H⟩ := H
              replace H : (if t177 = true then ((flagstonelaw01_alive.f kj14).bind fun t178 => (some t178)) else (some false)) = some r := H
              have A53 := Aside0.mk A530
              clear A530
              by_cases c54 : t177 = true
              · subst c54
                have H1 : ((flagstonelaw01_alive.f kj14).bind fun t178 => (some t178)) = some r := by rw [if_pos rfl] at H; exact H
                clear H
                have H := H1
                clear H1
                replace H := Option.bind_eq_some_iff.mp H
                obtain ⟨t178, A550, H⟩ := H
                replace H : (some t178) = some r := H
                have A55 := Aside0.mk A550
                clear A550
                obtain rfl := Option.some.inj H
                go_wp2_with (first | (go_at_call 13; (with_reducible refine (flagstonelaw01_num.calls t167 t176 _ A51.out).mono ?_); rintro e w' ⟨rfl, ⟨nd, rfl⟩⟩) | (go_at_call 14; (with_reducible refine (flagstoneplain_SameBytes.calls _ _ t142 _ _ l2 true _ ?side1 ?side2 ?side3 ?side4 A53.out).mono ?_); (case side1 => repeat (first | exact (Kd.R_reads' HO_11.out).2.2 | (with_reducible refine Kd.C_alloc ?_ _) | (with_reducible refine Kd.C_drewN ?_ _) | (with_reducible refine Kd.C_drew ?_))); (case side2 => exact (Kd.R_reads' HO_11.out).2.1); (case side3 => repeat (first | exact (Kd.C_below HR2.out (by repeat (first | (with_reducible first | exact HB.out | apply below_alloc | apply pw_below_drewN | apply below_drew1) | exact HB.out))) | (with_reducible refine Kd.C_alloc ?_ _) | (with_reducible refine Kd.C_drewN ?_ _) | (with_reducible refine Kd.C_drew ?_))); (case side4 => exact HC2.out); rintro e w' ⟨rfl, ⟨nd, rfl⟩⟩) | (go_at_call 11; (with_reducible refine (flagstonelaw01_alive.calls kj14  t178 _ A55.out).mono ?_); rintro e w56 ⟨rfl, hb⟩; have n0_ := Aside0.mk (Kd.R_below (by (with_reducible repeat (first | apply Kd.R_alloc | apply Kd.R_drewN | apply Kd.R_drew)); exact HO_11.out) hb); have n1_ := Aside0.mk (below_step (by repeat (first | (with_reducible first | exact HB.out | apply below_alloc | apply pw_below_drewN | apply below_drew1) | exact HB.out)) hb); clear HO_11; clear HB; have HO_11 := n0_; have HB := n1_; clear n0_ n1_; (try clear hb); (try clear hb2); (try clear hk); (try clear hi)))
                go_ret
                exact ⟨by first | rfl | (simp [errW_none, errW_some] <;> rfl) | (simp [*, errW_none, errW_some] <;> rfl), by repeat (first | (with_reducible first | exact HB.out | apply below_alloc | apply pw_below_drewN | apply below_drew1) | exact HB.out)⟩
              · replace c54 := Bool.eq_false_iff.mpr c54
                subst c54
                have H1 : (some false) = some r := by rw [if_neg (show ¬ (false = true) by decide)] at H; exact H
                clear H
                have H := H1
                clear H1
                obtain rfl := Option.some.inj H
                go_wp2_with (first | (go_at_call 13; (with_reducible refine (flagstonelaw01_num.calls t167 t176 _ A51.out).mono ?_); rintro e w' ⟨rfl, ⟨nd, rfl⟩⟩) | (go_at_call 14; (with_reducible refine (flagstoneplain_SameBytes.calls _ _ t142 _ _ l2 false _ ?side1 ?side2 ?side3 ?side4 A53.out).mono ?_); (case side1 => repeat (first | exact (Kd.R_reads' HO_11.out).2.2 | (with_reducible refine Kd.C_alloc ?_ _) | (with_reducible refine Kd.C_drewN ?_ _) | (with_reducible refine Kd.C_drew ?_))); (case side2 => exact (Kd.R_reads' HO_11.out).2.1); (case side3 => repeat (first | exact (Kd.C_below HR2.out (by repeat (first | (with_reducible first | exact HB.out | apply below_alloc | apply pw_below_drewN | apply below_drew1) | exact HB.out))) | (with_reducible refine Kd.C_alloc ?_ _) | (with_reducible refine Kd.C_drewN ?_ _) | (with_reducible refine Kd.C_drew ?_))); (case side4 => exact HC2.out); rintro e w' ⟨rfl, ⟨nd, rfl⟩⟩))
                go_ret
                exact ⟨by first | rfl | (simp [errW_none, errW_some] <;> rfl) | (simp [*, errW_none, errW_some] <;> rfl), by repeat (first | (with_reducible first | exact HB.out | apply below_alloc | apply pw_below_drewN | apply below_drew1) | exact HB.out)⟩
            · rw [if_neg c52] at H
              have c52b0 : (t176 == t170) = false := beq_eq_false_iff_ne.mpr c52
              have c52b1 : (t176 != t170) = true := bne_iff_ne.mpr c52
              obtain rfl := Option.some.inj H
              go_wp2_with (first | (go_at_call 13; (with_reducible refine (flagstonelaw01_num.calls t167 t176 _ A51.out).mono ?_); rintro e w' ⟨rfl, ⟨nd, rfl⟩⟩))
              go_ret
              exact ⟨by first | rfl | (simp [errW_none, errW_some] <;> rfl) | (simp [*, errW_none, errW_some] <;> rfl), by repeat (first | (with_reducible first | exact HB.out | apply below_alloc | apply pw_below_drewN | apply below_drew1) | exact HB.out)⟩
          · rw [if_neg c50] at H
            have c50b0 : (t166 == t169) = false := beq_eq_false_iff_ne.mpr c50
            have c50b1 : (t166 != t169) = true := bne_iff_ne.mpr c50
            obtain rfl := Option.some.inj H
            go_wp2
            go_ret
            exact ⟨by first | rfl | (simp [errW_none, errW_some] <;> rfl) | (simp [*, errW_none, errW_some] <;> rfl), by repeat (first | (with_reducible first | exact HB.out | apply below_alloc | apply pw_below_drewN | apply below_drew1) | exact HB.out)⟩
        · rw [if_neg c49] at H
          have c49b0 : (t165.toList == t168.toList) = false := beq_eq_false_iff_ne.mpr c49
          have c49b1 : (t165.toList != t168.toList) = true := bne_iff_ne.mpr c49
          obtain rfl := Option.some.inj H
          go_wp2
          go_ret
          exact ⟨by first | rfl | (simp [errW_none, errW_some] <;> rfl) | (simp [*, errW_none, errW_some] <;> rfl), by repeat (first | (with_reducible first | exact HB.out | apply below_alloc | apply pw_below_drewN | apply below_drew1) | exact HB.out)⟩

/-- THE ONE PURE STATEMENT of flagstonelaw01_OctetsTells: yours. -/
def flagstonelaw01_OctetsTells.Pure : Prop := ∀ (a0 : Int) (a1 : Int) (l2 : List Int) (a3 : Int) (a4 : ByteArray), (Lit.int .u64 a0).wf = true → (Lit.int .i64 a1).wf = true → l2.length ≤ maxLen → l2.length * 1 ≤ 140737488351232 → (∀ x ∈ l2, (Lit.int .u8 x).wf = true) → (Lit.int .i64 a3).wf = true → a4.size ≤ 140737488351232 → ∃ k, flagstonelaw01_OctetsTells.f k a0 a1 l2 a3 a4 = some true
theorem flagstonelaw01_OctetsTells.walk (P : flagstonelaw01_OctetsTells.Pure) (a0 : Int) (a1 : Int) (a2 : Option Addr) (len2 cap2 : Nat) (z2 : List Int) (a3 : Int) (a4 : ByteArray) (w : World) (w0 : (Lit.int .u64 a0).wf = true) (w1 : (Lit.int .i64 a1).wf = true) (w2 : (a2 = none ∧ len2 = 0 ∧ cap2 = 0 ∧ z2 = []) ∨ ∃ x, a2 = some x ∧ len2 ≤ cap2 ∧ cap2 ≤ maxLen ∧ z2.length = cap2 ∧ (∀ i, i < z2.length → w.cell? (x.add i) = some (.int .u8 (z2.getD i 0))) ∧ ∀ n ∈ z2, (Lit.int .u8 n).wf = true) (y2 : len2 * 1 ≤ 140737488351232) (w3 : (Lit.int .i64 a3).wf = true) (w4 : a4.size ≤ 140737488351232) :
    Calls Try.prog 4 #[.int .u64 a0, .int .i64 a1, .slice a2 len2 cap2, .int .i64 a3, .string a4] w fun e w' => e = .returned (.bool true) ∧ Below w.heap.size w w' := by
  obtain ⟨l2, rfl, hr2, hm2, hw2, hc2⟩ := ReadsInt.ofRowC w2
  obtain ⟨k, h⟩ := P a0 a1 l2 a3 a4 w0 w1 hm2 y2 hw2 w3 w4
  refine (flagstonelaw01_OctetsTells.calls k a0 a1 _ _ l2 a3 a4 true w (Kd.C_of_reads (d := (0 : Int)) (h1 := fun _ => rfl) hr2) hc2 h).mono ?_
  rintro e w' ⟨rfl, hd⟩
  exact ⟨rfl, hd⟩

/-! ### flagstonelaw01_OctetsBack: function 5 -/
def flagstonelaw01_OctetsBack.j0 : Nat → ByteArray → List Int → Option (Bool)
  | 0, _, _ => none
  | k + 1, x2, x3 => (octets_Text.f x2).bind fun bt194 => ((flagstonelaw01_num.f bt194.2).bind fun t198 => (if t198 = 0 then ((flagstoneplain_CopyBytes.f x3).bind fun t199 => (if t199.length + bt194.1.length < 140737488355328 then ((octets_Read.f (t199 ++ bt194.1) (x3.length : Int)).bind fun bt205 => ((flagstonelaw01_num.f bt205.2.2).bind fun t208 => (if t208 = 0 then (if bt205.1.toList = x2.toList then (some (bt205.2.1 == (wrap64 ((x3.length : Int) + (bt194.1.length : Int))))) else (some false)) else (some false)))) else (none))) else (some ((bt194.1.length : Int) == 0))))
def flagstonelaw01_OctetsBack.f (k : Nat) (a0 : Int) (a1 : Int) (a2 : ByteArray) (l3 : List Int) : Option (Bool) := (flagstonelaw01_alive.f k).bind fun t179 => (if t179 = true then ((octets_Put.f k a0 a1).bind fun bt180 => ((flagstonelaw01_num.f bt180.2).bind fun t184 => (if t184 = 0 then ((flagstoneplain_CopyBytes.f l3).bind fun t185 => (if t185.length + bt180.1.length < 140737488355328 then ((octets_Get.f (t185 ++ bt180.1) (l3.length : Int) a1).bind fun bt191 => ((flagstonelaw01_num.f bt191.2).bind fun t193 => (if t193 = 0 then (if bt191.1 = a0 then (if (bt180.1.length : Int) = a1 then (flagstonelaw01_OctetsBack.j0 k a2 l3) else (some false)) else (some false)) else (some false)))) else (none))) else (if (bt180.1.length : Int) = 0 then (flagstonelaw01_OctetsBack.j0 k a2 l3) else (some false))))) else (some false))
theorem flagstonelaw01_OctetsBack.mono_l : ∀ k, (∀ y0 y1, LeO (flagstonelaw01_OctetsBack.j0 k y0 y1) (flagstonelaw01_OctetsBack.j0 (k + 1) y0 y1))
  | 0 => fun _ _ r h => by simp [flagstonelaw01_OctetsBack.j0] at h
  | k + 1 => by
    have ih0 := flagstonelaw01_OctetsBack.mono_l k
    · intro y0 y1
      unfold flagstonelaw01_OctetsBack.j0
      repeat' first
      | (with_reducible exact ih0 _ _)
      | (with_reducible exact flagstonelaw01_alive.mono _)
      | (with_reducible exact octets_Put.mono _ _ _)
      | (with_reducible exact LeO.refl _)
      | (with_reducible exact LeO.none _)
      | (with_reducible refine LeO.ite ?_ ?_)
      | (with_reducible refine LeO.bind ?_ (fun _ => ?_))
      | exact ih0 _ _
      | exact flagstonelaw01_alive.mono _
      | exact octets_Put.mono _ _ _
      | exact LeO.none _
      | refine LeO.ite ?_ ?_
      | refine LeO.bind ?_ (fun _ => ?_)
theorem flagstonelaw01_OctetsBack.mono : ∀ a0 a1 a2 a3 k, LeO (flagstonelaw01_OctetsBack.f k a0 a1 a2 a3) (flagstonelaw01_OctetsBack.f (k + 1) a0 a1 a2 a3) := by
  intro a0 a1 a2 a3 k
  have ih0 := flagstonelaw01_OctetsBack.mono_l k
  unfold flagstonelaw01_OctetsBack.f
  repeat' first
      | (with_reducible exact ih0 _ _)
      | (with_reducible exact flagstonelaw01_alive.mono _)
      | (with_reducible exact octets_Put.mono _ _ _)
      | (with_reducible exact LeO.refl _)
      | (with_reducible exact LeO.none _)
      | (with_reducible refine LeO.ite ?_ ?_)
      | (with_reducible refine LeO.bind ?_ (fun _ => ?_))
      | exact ih0 _ _
      | exact flagstonelaw01_alive.mono _
      | exact octets_Put.mono _ _ _
      | exact LeO.none _
      | refine LeO.ite ?_ ?_
      | refine LeO.bind ?_ (fun _ => ?_)
set_option maxHeartbeats 8000000 in
set_option maxRecDepth 100000 in
theorem flagstonelaw01_OctetsBack.calls (k : Nat) (a0 : Int) (a1 : Int) (a2 : ByteArray) (A3 : Option Addr) (c3 : Nat) (l3 : List Int) (r : Bool) (w : World) (hr3 : Kd.C (Kd.int .u8) w A3 l3.length l3) (hc3 : l3.length ≤ c3) (h : flagstonelaw01_OctetsBack.f k a0 a1 a2 l3 = some r) :
    Calls Try.prog 5 #[.int .u64 a0, .int .i64 a1, .string a2, .slice A3 l3.length c3] w fun e w' => e = .returned (.bool r) ∧ Below w.heap.size w w' := by
  have HR3 := Aside0.mk hr3
  have HC3 := Aside0.mk hc3
  clear hr3 hc3
  have HB := Aside0.mk (Below.refl w.heap.size w)
  have H : ((flagstonelaw01_alive.f k).bind fun t179 => (if t179 = true then ((octets_Put.f k a0 a1).bind fun bt180 => ((flagstonelaw01_num.f bt180.2).bind fun t184 => (if t184 = 0 then ((flagstoneplain_CopyBytes.f l3).bind fun t185 => (if t185.length + bt180.1.length < 140737488355328 then ((octets_Get.f (t185 ++ bt180.1) (l3.length : Int) a1).bind fun bt191 => ((flagstonelaw01_num.f bt191.2).bind fun t193 => (if t193 = 0 then (if bt191.1 = a0 then (if (bt180.1.length : Int) = a1 then (flagstonelaw01_OctetsBack.j0 k a2 l3) else (some false)) else (some false)) else (some false)))) else (none))) else (if (bt180.1.length : Int) = 0 then (flagstonelaw01_OctetsBack.j0 k a2 l3) else (some false))))) else (some false))) = some r := h
  clear h
  replace H := Option.bind_eq_some_iff.mp H
  obtain ⟨t179, A50, H⟩ := H
  replace H : (if t179 = true then ((octets_Put.f k a0 a1).bind fun bt180 => ((flagstonelaw01_num.f bt180.2).bind fun t184 => (if t184 = 0 then ((flagstoneplain_CopyBytes.f l3).bind fun t185 => (if t185.length + bt180.1.length < 140737488355328 then ((octets_Get.f (t185 ++ bt180.1) (l3.length : Int) a1).bind fun bt191 => ((flagstonelaw01_num.f bt191.2).bind fun t193 => (if t193 = 0 then (if bt191.1 = a0 then (if (bt180.1.length : Int) = a1 then (flagstonelaw01_OctetsBack.j0 k a2 l3) else (some false)) else (some false)) else (some false)))) else (none))) else (if (bt180.1.length : Int) = 0 then (flagstonelaw01_OctetsBack.j0 k a2 l3) else (some false))))) else (some false)) = some r := H
  have A5 := Aside0.mk A50
  clear A50
  by_cases c6 : t179 = true
  · subst c6
    have H1 : ((octets_Put.f k a0 a1).bind fun bt180 => ((flagstonelaw01_num.f bt180.2).bind fun t184 => (if t184 = 0 then ((flagstoneplain_CopyBytes.f l3).bind fun t185 => (if t185.length + bt180.1.length < 140737488355328 then ((octets_Get.f (t185 ++ bt180.1) (l3.length : Int) a1).bind fun bt191 => ((flagstonelaw01_num.f bt191.2).bind fun t193 => (if t193 = 0 then (if bt191.1 = a0 then (if (bt180.1.length : Int) = a1 then (flagstonelaw01_OctetsBack.j0 k a2 l3) else (some false)) else (some false)) else (some false)))) else (none))) else (if (bt180.1.length : Int) = 0 then (flagstonelaw01_OctetsBack.j0 k a2 l3) else (some false))))) = some r := by rw [if_pos rfl] at H; exact H
    clear H
    have H := H1
    clear H1
    replace H := Option.bind_eq_some_iff.mp H
    obtain ⟨⟨t180, t181⟩, A70, H⟩ := H
    replace H : ((flagstonelaw01_num.f t181).bind fun t184 => (if t184 = 0 then ((flagstoneplain_CopyBytes.f l3).bind fun t185 => (if t185.length + t180.length < 140737488355328 then ((octets_Get.f (t185 ++ t180) (l3.length : Int) a1).bind fun bt191 => ((flagstonelaw01_num.f bt191.2).bind fun t193 => (if t193 = 0 then (if bt191.1 = a0 then (if (t180.length : Int) = a1 then (flagstonelaw01_OctetsBack.j0 k a2 l3) else (some false)) else (some false)) else (some false)))) else (none))) else (if (t180.length : Int) = 0 then (flagstonelaw01_OctetsBack.j0 k a2 l3) else (some false)))) = some r := H
    have A7 := Aside0.mk A70
    clear A70
    replace H := Option.bind_eq_some_iff.mp H
    obtain ⟨t184, A80, H⟩ := H
    replace H : (if t184 = 0 then ((flagstoneplain_CopyBytes.f l3).bind fun t185 => (if t185.length + t180.length < 140737488355328 then ((octets_Get.f (t185 ++ t180) (l3.length : Int) a1).bind fun bt191 => ((flagstonelaw01_num.f bt191.2).bind fun t193 => (if t193 = 0 then (if bt191.1 = a0 then (if (t180.length : Int) = a1 then (flagstonelaw01_OctetsBack.j0 k a2 l3) else (some false)) else (some false)) else (some false)))) else (none))) else (if (t180.length : Int) = 0 then (flagstonelaw01_OctetsBack.j0 k a2 l3) else (some false))) = some r := H
    have A8 := Aside0.mk A80
    clear A80
    have HC9 := Aside0.mk H
    clear H
    go_enter Try.func5, Try.ntmps5
    go_upto_if 28 with (first | ((with_reducible refine gate_callee (f := 11) rfl ?_); refine goesL_ (some 18) rfl rfl Try.func11 (by kernel_rfl) rfl #[] rfl (by (try simp only [List.map_toArray, List.map_cons, List.map_nil]); first | done | rfl | (simp only [List.length_drop, List.length_take]; rfl)) ?_; (with_reducible refine (flagstonelaw01_alive.calls k  true _ A5.out).mono ?_); rintro e w10 ⟨rfl, hb⟩; refine ⟨_, rfl, ?_⟩; have n0_ := Aside0.mk (below_step (by repeat (first | (with_reducible first | exact HB.out | apply below_alloc | apply pw_below_drewN | apply below_drew1) | exact HB.out)) hb); clear HB; have HB := n0_; clear n0_; (try clear hb); (try clear hb2); (try clear hk); (try clear hi)) | ((with_reducible refine gate_callee (f := 12) rfl ?_); refine goesL_ (some 23) rfl rfl Try.func12 (by kernel_rfl) rfl #[.int .u64 a0, .int .i64 a1] rfl (by (try simp only [List.map_toArray, List.map_cons, List.map_nil]); first | done | rfl | (simp only [List.length_drop, List.length_take]; rfl)) ?_; (with_reducible refine (octets_Put.calls k a0 a1 t180 t181 _ A7.out).mono ?_); rintro e w11 ⟨v182, rfl, ho0, hb⟩; refine ⟨_, rfl, ?_⟩; have n0_ := Aside0.mk (Kd.R_lower ho0 (below_size (by repeat (first | (with_reducible first | exact HB.out | apply below_alloc | apply pw_below_drewN | apply below_drew1) | exact HB.out)))); have n1_ := Aside0.mk (below_step (by repeat (first | (with_reducible first | exact HB.out | apply below_alloc | apply pw_below_drewN | apply below_drew1) | exact HB.out)) hb); clear HB; have HO183 := n0_; have HB := n1_; clear n0_ n1_; (try clear hb); (try clear hb2); (try clear hk); (try clear hi); (try clear ho0)) | ((with_reducible refine gate_callee (f := 13) rfl ?_); refine goesL_ (some 27) rfl rfl Try.func13 (by kernel_rfl) rfl #[.int .i64 t181] rfl (by (try simp only [List.map_toArray, List.map_cons, List.map_nil]); first | done | rfl | (simp only [List.length_drop, List.length_take]; rfl)) ?_; (with_reducible refine (flagstonelaw01_num.calls t181 t184 _ A8.out).mono ?_); rintro e w' ⟨rfl, ⟨nd, rfl⟩⟩; refine ⟨_, rfl, ?_⟩))
    (try simp only [Act.put, List.setIfInBounds_toArray, List.set_cons_zero, List.set_cons_succ])
    go_cut [] (fun wc => ∃ (kq : Nat), Aside0 (flagstonelaw01_OctetsBack.j0 kq a2 l3 = some r) ∧ Aside0 (kq ≤ k) ∧ Aside0 (Below w.heap.size w wc))
    case first =>
      have H := HC9.out
      clear HC9
      by_cases c12 : t184 = 0
      · rw [if_pos c12] at H
        have c12b0 : (t184 == 0) = true := beq_iff_eq.mpr c12
        have c12b1 : (t184 != 0) = false := bne_eq_false_iff_eq.mpr c12
        clear c12
        (first | rw [c12b0] | (simp only [i64_w, i32_w]; rw [c12b0]) | skip)
        replace H := Option.bind_eq_some_iff.mp H
        obtain ⟨t185, A130, H⟩ := H
        replace H : (if t185.length + t180.length < 140737488355328 then ((octets_Get.f (t185 ++ t180) (l3.length : Int) a1).bind fun bt191 => ((flagstonelaw01_num.f bt191.2).bind fun t193 => (if t193 = 0 then (if bt191.1 = a0 then (if (t180.length : Int) = a1 then (flagstonelaw01_OctetsBack.j0 k a2 l3) else (some false)) else (some false)) else (some false)))) else (none)) = some r := H
        have A13 := Aside0.mk A130
        clear A130
        by_cases c14 : t185.length + t180.length < 140737488355328
        · rw [if_pos c14] at H
          have LMc14 := Aside0.mk c14
          clear c14
          obtain ⟨y188, hy188⟩ : ∃ y_ : List Int, y_ = (t185 ++ t180) := ⟨_, rfl⟩
          replace H : ((octets_Get.f y188 (l3.length : Int) a1).bind fun bt191 => ((flagstonelaw01_num.f bt191.2).bind fun t193 => (if t193 = 0 then (if bt191.1 = a0 then (if (t180.length : Int) = a1 then (flagstonelaw01_OctetsBack.j0 k a2 l3) else (some false)) else (some false)) else (some false)))) = some r := by first | (rw [hy188]; with_reducible exact H) | (have H2_ := (Option.bind_some _ _).symm.trans H; rw [hy188]; with_reducible exact H2_) | (have H2_ := (Option.bind_some _ _).symm.trans H; with_reducible exact H2_) | with_reducible exact H | (rw [hy188]; exact H) | exact H
          have Ny188 := Aside0.mk hy188
          clear hy188
          replace H := Option.bind_eq_some_iff.mp H
          obtain ⟨⟨t191, t192⟩, A150, H⟩ := H
          replace H : ((flagstonelaw01_num.f t192).bind fun t193 => (if t193 = 0 then (if t191 = a0 then (if (t180.length : Int) = a1 then (flagstonelaw01_OctetsBack.j0 k a2 l3) else (some false)) else (some false)) else (some false))) = some r := H
          have A15 := Aside0.mk A150
          clear A150
          replace H := Option.bind_eq_some_iff.mp H
          obtain ⟨t193, A160, H⟩ := H
          replace H : (if t193 = 0 then (if t191 = a0 then (if (t180.length : Int) = a1 then (flagstonelaw01_OctetsBack.j0 k a2 l3) else (some false)) else (some false)) else (some false)) = some r := H
          have A16 := Aside0.mk A160
          clear A160
          by_cases c17 : t193 = 0
          · rw [if_pos c17] at H
            have c17b0 : (t193 == 0) = true := beq_iff_eq.mpr c17
            have c17b1 : (t193 != 0) = false := bne_eq_false_iff_eq.mpr c17
            clear c17
            by_cases c18 : t191 = a0
            · rw [if_pos c18] at H
              have c18b0 : (t191 == a0) = true := beq_iff_eq.mpr c18
              have c18b1 : (t191 != a0) = false := bne_eq_false_iff_eq.mpr c18
              clear c18
              by_cases c19 : (t180.length : Int) = a1
              · rw [if_pos c19] at H
                have c19b0 : ((t180.length : Int) == a1) = true := beq_iff_eq.mpr c19
                have c19b1 : ((t180.length : Int) != a1) = false := bne_eq_false_iff_eq.mpr c19
                clear c19
                have H' := Aside0.mk H
                clear H
                go_wp2_with (first | ((with_reducible refine gate_callee (f := 15) rfl ?_); refine goesL_ (some 31) rfl rfl Try.func15 (by kernel_rfl) rfl #[.slice A3 l3.length c3] rfl (by (try simp only [List.map_toArray, List.map_cons, List.map_nil]); first | done | rfl | (simp only [List.length_drop, List.length_take]; rfl)) ?_; (with_reducible refine (flagstoneplain_CopyBytes.calls _ _ l3 t185 _ ?side1 ?side2 A13.out).mono ?_); (case side1 => repeat (first | exact (Kd.C_below HR3.out HB.out) | (with_reducible refine Kd.C_alloc ?_ _) | (with_reducible refine Kd.C_drewN ?_ _) | (with_reducible refine Kd.C_drew ?_))); (case side2 => exact HC3.out); rintro e w20 ⟨v186, rfl, ho0, hb⟩; refine ⟨_, rfl, ?_⟩; have n0_ := Aside0.mk (Kd.R_elder' (by (with_reducible repeat (first | apply Kd.R_alloc | apply Kd.R_drewN | apply Kd.R_drew)); exact HO183.out) (Kd.R_base ho0) hb); have n1_ := Aside0.mk (Kd.R_lower (Kd.R_new' ho0 (Kd.R_lt (by (with_reducible repeat (first | apply Kd.R_alloc | apply Kd.R_drewN | apply Kd.R_drew)); exact HO183.out))) (below_size (by repeat (first | (with_reducible first | exact HB.out | apply below_alloc | apply pw_below_drewN | apply below_drew1) | exact HB.out)))); have n2_ := Aside0.mk (below_step (by repeat (first | (with_reducible first | exact HB.out | apply below_alloc | apply pw_below_drewN | apply below_drew1) | exact HB.out)) hb); clear HO183; clear HB; have HO183 := n0_; have HO187 := n1_; have HB := n2_; clear n0_ n1_ n2_; (try clear hb); (try clear hb2); (try clear hk); (try clear hi); (try clear ho0); obtain ⟨Ao22, co22, eo22⟩ := Kd.R_slice HO183.out; subst eo22) | ((with_reducible refine gate_builtin (b := .append) (xs := #[.tmp 31, .tmp 32]) rfl ?_); (try (refine gate_guard (by rfl) ?_; dsimp only)); at_builtin; refine Kd.R_append_rows (Kd.int .u8) (w0 := w) w.heap.size rfl (.tmp 31) (.tmp 32) 24 5 (.int .u8 0) 1 rfl Try.underlying24 info5 rfl (by decide) (by omega) v186 t185 t180 _ _ _ (fun k_ => some k_ ≠ (.slice Ao22 t180.length co22 : Value).ownBlock) (fun _ => False) rfl rfl ?aO ?aR (fun _ _ h => h) (fun _ h => h.elim) ?aF ?aB ?aS ?aL ?_; (case aR => repeat (first | exact (Kd.R_reads' HO183.out).2.2 | (with_reducible refine Kd.C_alloc ?_ _) | (with_reducible refine Kd.C_drewN ?_ _) | (with_reducible refine Kd.C_drew ?_))); (case aB => exact (by repeat (first | (with_reducible first | exact HB.out | apply below_alloc | apply pw_below_drewN | apply below_drew1) | exact HB.out))); (case aF => exact (fun k_ hk => Kd.fresh' (Kd.R_lt (by (with_reducible repeat (first | apply Kd.R_alloc | apply Kd.R_drewN | apply Kd.R_drew)); exact HO183.out)) k_ hk)); (case aO => exact (by (with_reducible repeat (first | apply Kd.R_alloc | apply Kd.R_drewN | apply Kd.R_drew)); exact Kd.R_mono HO187.out (fun _ hk => hk.2))); (case aS => exact (below_size (by repeat (first | (with_reducible first | exact HB.out | apply below_alloc | apply pw_below_drewN | apply below_drew1) | exact HB.out)))); (case aL => have := LMc14.out; omega); intro v189 w21 ho hb hg hat; rw [← Ny188.out] at ho; have n0_ := Aside0.mk (Kd.R_after (ok := (fun _ => True)) (by (with_reducible repeat (first | apply Kd.R_alloc | apply Kd.R_drewN | apply Kd.R_drew)); exact HO183.out) hg hat); have n1_ := Aside0.mk (hb); have n2_ := Aside0.mk (ho); clear HO183; clear HB; clear HO187; have HO183 := n0_; have HB := n1_; have HO190 := n2_; clear n0_ n1_ n2_; clear ho hb hg hat; obtain ⟨Ao23, co23, eo23⟩ := Kd.R_slice HO190.out; subst eo23) | ((with_reducible refine gate_callee (f := 17) rfl ?_); refine goesL_ (some 37) rfl rfl Try.func17 (by kernel_rfl) rfl #[.slice Ao23 y188.length co23, .int .i64 (l3.length : Int), .int .i64 a1] rfl (by (try simp only [List.map_toArray, List.map_cons, List.map_nil]); first | done | rfl | (simp only [List.length_drop, List.length_take]; rfl)) ?_; (with_reducible refine (octets_Get.calls _ _ y188 (l3.length : Int) a1 t191 t192 _ ?side1 ?side2 A15.out).mono ?_); (case side1 => repeat (first | exact (Kd.R_reads' HO190.out).2.2 | (with_reducible refine Kd.C_alloc ?_ _) | (with_reducible refine Kd.C_drewN ?_ _) | (with_reducible refine Kd.C_drew ?_))); (case side2 => exact (Kd.R_reads' HO190.out).2.1); rintro e w' ⟨rfl, ⟨nd, rfl⟩⟩; refine ⟨_, rfl, ?_⟩) | ((with_reducible refine gate_callee (f := 13) rfl ?_); refine goesL_ (some 41) rfl rfl Try.func13 (by kernel_rfl) rfl #[.int .i64 t192] rfl (by (try simp only [List.map_toArray, List.map_cons, List.map_nil]); first | done | rfl | (simp only [List.length_drop, List.length_take]; rfl)) ?_; (with_reducible refine (flagstonelaw01_num.calls t192 t193 _ A16.out).mono ?_); rintro e w' ⟨rfl, ⟨nd, rfl⟩⟩; refine ⟨_, rfl, ?_⟩))
                go_meet
                case rel => exact ⟨_, H', ⟨by first | omega | exact Nat.le_refl _⟩, ⟨by repeat (first | (with_reducible first | exact HB.out | apply below_alloc | apply pw_below_drewN | apply below_drew1) | exact HB.out)⟩⟩
              · rw [if_neg c19] at H
                have c19b0 : ((t180.length : Int) == a1) = false := beq_eq_false_iff_ne.mpr c19
                have c19b1 : ((t180.length : Int) != a1) = true := bne_iff_ne.mpr c19
                obtain rfl := Option.some.inj H
                go_wp2_with (first | ((with_reducible refine gate_callee (f := 15) rfl ?_); refine goesL_ (some 31) rfl rfl Try.func15 (by kernel_rfl) rfl #[.slice A3 l3.length c3] rfl (by (try simp only [List.map_toArray, List.map_cons, List.map_nil]); first | done | rfl | (simp only [List.length_drop, List.length_take]; rfl)) ?_; (with_reducible refine (flagstoneplain_CopyBytes.calls _ _ l3 t185 _ ?side1 ?side2 A13.out).mono ?_); (case side1 => repeat (first | exact (Kd.C_below HR3.out HB.out) | (with_reducible refine Kd.C_alloc ?_ _) | (with_reducible refine Kd.C_drewN ?_ _) | (with_reducible refine Kd.C_drew ?_))); (case side2 => exact HC3.out); rintro e w24 ⟨v186, rfl, ho0, hb⟩; refine ⟨_, rfl, ?_⟩; have n0_ := Aside0.mk (Kd.R_elder' (by (with_reducible repeat (first | apply Kd.R_alloc | apply Kd.R_drewN | apply Kd.R_drew)); exact HO183.out) (Kd.R_base ho0) hb); have n1_ := Aside0.mk (Kd.R_lower (Kd.R_new' ho0 (Kd.R_lt (by (with_reducible repeat (first | apply Kd.R_alloc | apply Kd.R_drewN | apply Kd.R_drew)); exact HO183.out))) (below_size (by repeat (first | (with_reducible first | exact HB.out | apply below_alloc | apply pw_below_drewN | apply below_drew1) | exact HB.out)))); have n2_ := Aside0.mk (below_step (by repeat (first | (with_reducible first | exact HB.out | apply below_alloc | apply pw_below_drewN | apply below_drew1) | exact HB.out)) hb); clear HO183; clear HB; have HO183 := n0_; have HO187 := n1_; have HB := n2_; clear n0_ n1_ n2_; (try clear hb); (try clear hb2); (try clear hk); (try clear hi); (try clear ho0); obtain ⟨Ao26, co26, eo26⟩ := Kd.R_slice HO183.out; subst eo26) | ((with_reducible refine gate_builtin (b := .append) (xs := #[.tmp 31, .tmp 32]) rfl ?_); (try (refine gate_guard (by rfl) ?_; dsimp only)); at_builtin; refine Kd.R_append_rows (Kd.int .u8) (w0 := w) w.heap.size rfl (.tmp 31) (.tmp 32) 24 5 (.int .u8 0) 1 rfl Try.underlying24 info5 rfl (by decide) (by omega) v186 t185 t180 _ _ _ (fun k_ => some k_ ≠ (.slice Ao26 t180.length co26 : Value).ownBlock) (fun _ => False) rfl rfl ?aO ?aR (fun _ _ h => h) (fun _ h => h.elim) ?aF ?aB ?aS ?aL ?_; (case aR => repeat (first | exact (Kd.R_reads' HO183.out).2.2 | (with_reducible refine Kd.C_alloc ?_ _) | (with_reducible refine Kd.C_drewN ?_ _) | (with_reducible refine Kd.C_drew ?_))); (case aB => exact (by repeat (first | (with_reducible first | exact HB.out | apply below_alloc | apply pw_below_drewN | apply below_drew1) | exact HB.out))); (case aF => exact (fun k_ hk => Kd.fresh' (Kd.R_lt (by (with_reducible repeat (first | apply Kd.R_alloc | apply Kd.R_drewN | apply Kd.R_drew)); exact HO183.out)) k_ hk)); (case aO => exact (by (with_reducible repeat (first | apply Kd.R_alloc | apply Kd.R_drewN | apply Kd.R_drew)); exact Kd.R_mono HO187.out (fun _ hk => hk.2))); (case aS => exact (below_size (by repeat (first | (with_reducible first | exact HB.out | apply below_alloc | apply pw_below_drewN | apply below_drew1) | exact HB.out)))); (case aL => have := LMc14.out; omega); intro v189 w25 ho hb hg hat; rw [← Ny188.out] at ho; have n0_ := Aside0.mk (Kd.R_after (ok := (fun _ => True)) (by (with_reducible repeat (first | apply Kd.R_alloc | apply Kd.R_drewN | apply Kd.R_drew)); exact HO183.out) hg hat); have n1_ := Aside0.mk (hb); have n2_ := Aside0.mk (ho); clear HO183; clear HB; clear HO187; have HO183 := n0_; have HB := n1_; have HO190 := n2_; clear n0_ n1_ n2_; clear ho hb hg hat; obtain ⟨Ao27, co27, eo27⟩ := Kd.R_slice HO190.out; subst eo27) | ((with_reducible refine gate_callee (f := 17) rfl ?_); refine goesL_ (some 37) rfl rfl Try.func17 (by kernel_rfl) rfl #[.slice Ao27 y188.length co27, .int .i64 (l3.length : Int), .int .i64 a1] rfl (by (try simp only [List.map_toArray, List.map_cons, List.map_nil]); first | done | rfl | (simp only [List.length_drop, List.length_take]; rfl)) ?_; (with_reducible refine (octets_Get.calls _ _ y188 (l3.length : Int) a1 t191 t192 _ ?side1 ?side2 A15.out).mono ?_); (case side1 => repeat (first | exact (Kd.R_reads' HO190.out).2.2 | (with_reducible refine Kd.C_alloc ?_ _) | (with_reducible refine Kd.C_drewN ?_ _) | (with_reducible refine Kd.C_drew ?_))); (case side2 => exact (Kd.R_reads' HO190.out).2.1); rintro e w' ⟨rfl, ⟨nd, rfl⟩⟩; refine ⟨_, rfl, ?_⟩) | ((with_reducible refine gate_callee (f := 13) rfl ?_); refine goesL_ (some 41) rfl rfl Try.func13 (by kernel_rfl) rfl #[.int .i64 t192] rfl (by (try simp only [List.map_toArray, List.map_cons, List.map_nil]); first | done | rfl | (simp only [List.length_drop, List.length_take]; rfl)) ?_; (with_reducible refine (flagstonelaw01_num.calls t192 t193 _ A16.out).mono ?_); rintro e w' ⟨rfl, ⟨nd, rfl⟩⟩; refine ⟨_, rfl, ?_⟩))
                go_ret
                exact ⟨by first | rfl | (simp [errW_none, errW_some] <;> rfl) | (simp [*, errW_none, errW_some] <;> rfl), by repeat (first | (with_reducible first | exact HB.out | apply below_alloc | apply pw_below_drewN | apply below_drew1) | exact HB.out)⟩
            · rw [if_neg c18] at H
              have c18b0 : (t191 == a0) = false := beq_eq_false_iff_ne.mpr c18
              have c18b1 : (t191 != a0) = true := bne_iff_ne.mpr c18
              obtain rfl := Option.some.inj H
              go_wp2_with (first | ((with_reducible refine gate_callee (f := 15) rfl ?_); refine goesL_ (some 31) rfl rfl Try.func15 (by kernel_rfl) rfl #[.slice A3 l3.length c3] rfl (by (try simp only [List.map_toArray, List.map_cons, List.map_nil]); first | done | rfl | (simp only [List.length_drop, List.length_take]; rfl)) ?_; (with_reducible refine (flagstoneplain_CopyBytes.calls _ _ l3 t185 _ ?side1 ?side2 A13.out).mono ?_); (case side1 => repeat (first | exact (Kd.C_below HR3.out HB.out) | (with_reducible refine Kd.C_alloc ?_ _) | (with_reducible refine Kd.C_drewN ?_ _) | (with_reducible refine Kd.C_drew ?_))); (case side2 => exact HC3.out); rintro e w28 ⟨v186, rfl, ho0, hb⟩; refine ⟨_, rfl, ?_⟩; have n0_ := Aside0.mk (Kd.R_elder' (by (with_reducible repeat (first | apply Kd.R_alloc | apply Kd.R_drewN | apply Kd.R_drew)); exact HO183.out) (Kd.R_base ho0) hb); have n1_ := Aside0.mk (Kd.R_lower (Kd.R_new' ho0 (Kd.R_lt (by (with_reducible repeat (first | apply Kd.R_alloc | apply Kd.R_drewN | apply Kd.R_drew)); exact HO183.out))) (below_size (by repeat (first | (with_reducible first | exact HB.out | apply below_alloc | apply pw_below_drewN | apply below_drew1) | exact HB.out)))); have n2_ := Aside0.mk (below_step (by repeat (first | (with_reducible first | exact HB.out | apply below_alloc | apply pw_below_drewN | apply below_drew1) | exact HB.out)) hb); clear HO183; clear HB; have HO183 := n0_; have HO187 := n1_; have HB := n2_; clear n0_ n1_ n2_; (try clear hb); (try clear hb2); (try clear hk); (try clear hi); (try clear ho0); obtain ⟨Ao30, co30, eo30⟩ := Kd.R_slice HO183.out; subst eo30) | ((with_reducible refine gate_builtin (b := .append) (xs := #[.tmp 31, .tmp 32]) rfl ?_); (try (refine gate_guard (by rfl) ?_; dsimp only)); at_builtin; refine Kd.R_append_rows (Kd.int .u8) (w0 := w) w.heap.size rfl (.tmp 31) (.tmp 32) 24 5 (.int .u8 0) 1 rfl Try.underlying24 info5 rfl (by decide) (by omega) v186 t185 t180 _ _ _ (fun k_ => some k_ ≠ (.slice Ao30 t180.length co30 : Value).ownBlock) (fun _ => False) rfl rfl ?aO ?aR (fun _ _ h => h) (fun _ h => h.elim) ?aF ?aB ?aS ?aL ?_; (case aR => repeat (first | exact (Kd.R_reads' HO183.out).2.2 | (with_reducible refine Kd.C_alloc ?_ _) | (with_reducible refine Kd.C_drewN ?_ _) | (with_reducible refine Kd.C_drew ?_))); (case aB => exact (by repeat (first | (with_reducible first | exact HB.out | apply below_alloc | apply pw_below_drewN | apply below_drew1) | exact HB.out))); (case aF => exact (fun k_ hk => Kd.fresh' (Kd.R_lt (by (with_reducible repeat (first | apply Kd.R_alloc | apply Kd.R_drewN | apply Kd.R_drew)); exact HO183.out)) k_ hk)); (case aO => exact (by (with_reducible repeat (first | apply Kd.R_alloc | apply Kd.R_drewN | apply Kd.R_drew)); exact Kd.R_mono HO187.out (fun _ hk => hk.2))); (case aS => exact (below_size (by repeat (first | (with_reducible first | exact HB.out | apply below_alloc | apply pw_below_drewN | apply below_drew1) | exact HB.out)))); (case aL => have := LMc14.out; omega); intro v189 w29 ho hb hg hat; rw [← Ny188.out] at ho; have n0_ := Aside0.mk (Kd.R_after (ok := (fun _ => True)) (by (with_reducible repeat (first | apply Kd.R_alloc | apply Kd.R_drewN | apply Kd.R_drew)); exact HO183.out) hg hat); have n1_ := Aside0.mk (hb); have n2_ := Aside0.mk (ho); clear HO183; clear HB; clear HO187; have HO183 := n0_; have HB := n1_; have HO190 := n2_; clear n0_ n1_ n2_; clear ho hb hg hat; obtain ⟨Ao31, co31, eo31⟩ := Kd.R_slice HO190.out; subst eo31) | ((with_reducible refine gate_callee (f := 17) rfl ?_); refine goesL_ (some 37) rfl rfl Try.func17 (by kernel_rfl) rfl #[.slice Ao31 y188.length co31, .int .i64 (l3.length : Int), .int .i64 a1] rfl (by (try simp only [List.map_toArray, List.map_cons, List.map_nil]); first | done | rfl | (simp only [List.length_drop, List.length_take]; rfl)) ?_; (with_reducible refine (octets_Get.calls _ _ y188 (l3.length : Int) a1 t191 t192 _ ?side1 ?side2 A15.out).mono ?_); (case side1 => repeat (first | exact (Kd.R_reads' HO190.out).2.2 | (with_reducible refine Kd.C_alloc ?_ _) | (with_reducible refine Kd.C_drewN ?_ _) | (with_reducible refine Kd.C_drew ?_))); (case side2 => exact (Kd.R_reads' HO190.out).2.1); rintro e w' ⟨rfl, ⟨nd, rfl⟩⟩; refine ⟨_, rfl, ?_⟩) | ((with_reducible refine gate_callee (f := 13) rfl ?_); refine goesL_ (some 41) rfl rfl Try.func13 (by kernel_rfl) rfl #[.int .i64 t192] rfl (by (try simp only [List.map_toArray, List.map_cons, List.map_nil]); first | done | rfl | (simp only [List.length_drop, List.length_take]; rfl)) ?_; (with_reducible refine (flagstonelaw01_num.calls t192 t193 _ A16.out).mono ?_); rintro e w' ⟨rfl, ⟨nd, rfl⟩⟩; refine ⟨_, rfl, ?_⟩))
              go_ret
              exact ⟨by first | rfl | (simp [errW_none, errW_some] <;> rfl) | (simp [*, errW_none, errW_some] <;> rfl), by repeat (first | (with_reducible first | exact HB.out | apply below_alloc | apply pw_below_drewN | apply below_drew1) | exact HB.out)⟩
          · rw [if_neg c17] at H
            have c17b0 : (t193 == 0) = false := beq_eq_false_iff_ne.mpr c17
            have c17b1 : (t193 != 0) = true := bne_iff_ne.mpr c17
            obtain rfl := Option.some.inj H
            go_wp2_with (first | ((with_reducible refine gate_callee (f := 15) rfl ?_); refine goesL_ (some 31) rfl rfl Try.func15 (by kernel_rfl) rfl #[.slice A3 l3.length c3] rfl (by (try simp only [List.map_toArray, List.map_cons, List.map_nil]); first | done | rfl | (simp only [List.length_drop, List.length_take]; rfl)) ?_; (with_reducible refine (flagstoneplain_CopyBytes.calls _ _ l3 t185 _ ?side1 ?side2 A13.out).mono ?_); (case side1 => repeat (first | exact (Kd.C_below HR3.out HB.out) | (with_reducible refine Kd.C_alloc ?_ _) | (with_reducible refine Kd.C_drewN ?_ _) | (with_reducible refine Kd.C_drew ?_))); (case side2 => exact HC3.out); rintro e w32 ⟨v186, rfl, ho0, hb⟩; refine ⟨_, rfl, ?_⟩; have n0_ := Aside0.mk (Kd.R_elder' (by (with_reducible repeat (first | apply Kd.R_alloc | apply Kd.R_drewN | apply Kd.R_drew)); exact HO183.out) (Kd.R_base ho0) hb); have n1_ := Aside0.mk (Kd.R_lower (Kd.R_new' ho0 (Kd.R_lt (by (with_reducible repeat (first | apply Kd.R_alloc | apply Kd.R_drewN | apply Kd.R_drew)); exact HO183.out))) (below_size (by repeat (first | (with_reducible first | exact HB.out | apply below_alloc | apply pw_below_drewN | apply below_drew1) | exact HB.out)))); have n2_ := Aside0.mk (below_step (by repeat (first | (with_reducible first | exact HB.out | apply below_alloc | apply pw_below_drewN | apply below_drew1) | exact HB.out)) hb); clear HO183; clear HB; have HO183 := n0_; have HO187 := n1_; have HB := n2_; clear n0_ n1_ n2_; (try clear hb); (try clear hb2); (try clear hk); (try clear hi); (try clear ho0); obtain ⟨Ao34, co34, eo34⟩ := Kd.R_slice HO183.out; subst eo34) | ((with_reducible refine gate_builtin (b := .append) (xs := #[.tmp 31, .tmp 32]) rfl ?_); (try (refine gate_guard (by rfl) ?_; dsimp only)); at_builtin; refine Kd.R_append_rows (Kd.int .u8) (w0 := w) w.heap.size rfl (.tmp 31) (.tmp 32) 24 5 (.int .u8 0) 1 rfl Try.underlying24 info5 rfl (by decide) (by omega) v186 t185 t180 _ _ _ (fun k_ => some k_ ≠ (.slice Ao34 t180.length co34 : Value).ownBlock) (fun _ => False) rfl rfl ?aO ?aR (fun _ _ h => h) (fun _ h => h.elim) ?aF ?aB ?aS ?aL ?_; (case aR => repeat (first | exact (Kd.R_reads' HO183.out).2.2 | (with_reducible refine Kd.C_alloc ?_ _) | (with_reducible refine Kd.C_drewN ?_ _) | (with_reducible refine Kd.C_drew ?_))); (case aB => exact (by repeat (first | (with_reducible first | exact HB.out | apply below_alloc | apply pw_below_drewN | apply below_drew1) | exact HB.out))); (case aF => exact (fun k_ hk => Kd.fresh' (Kd.R_lt (by (with_reducible repeat (first | apply Kd.R_alloc | apply Kd.R_drewN | apply Kd.R_drew)); exact HO183.out)) k_ hk)); (case aO => exact (by (with_reducible repeat (first | apply Kd.R_alloc | apply Kd.R_drewN | apply Kd.R_drew)); exact Kd.R_mono HO187.out (fun _ hk => hk.2))); (case aS => exact (below_size (by repeat (first | (with_reducible first | exact HB.out | apply below_alloc | apply pw_below_drewN | apply below_drew1) | exact HB.out)))); (case aL => have := LMc14.out; omega); intro v189 w33 ho hb hg hat; rw [← Ny188.out] at ho; have n0_ := Aside0.mk (Kd.R_after (ok := (fun _ => True)) (by (with_reducible repeat (first | apply Kd.R_alloc | apply Kd.R_drewN | apply Kd.R_drew)); exact HO183.out) hg hat); have n1_ := Aside0.mk (hb); have n2_ := Aside0.mk (ho); clear HO183; clear HB; clear HO187; have HO183 := n0_; have HB := n1_; have HO190 := n2_; clear n0_ n1_ n2_; clear ho hb hg hat; obtain ⟨Ao35, co35, eo35⟩ := Kd.R_slice HO190.out; subst eo35) | ((with_reducible refine gate_callee (f := 17) rfl ?_); refine goesL_ (some 37) rfl rfl Try.func17 (by kernel_rfl) rfl #[.slice Ao35 y188.length co35, .int .i64 (l3.length : Int), .int .i64 a1] rfl (by (try simp only [List.map_toArray, List.map_cons, List.map_nil]); first | done | rfl | (simp only [List.length_drop, List.length_take]; rfl)) ?_; (with_reducible refine (octets_Get.calls _ _ y188 (l3.length : Int) a1 t191 t192 _ ?side1 ?side2 A15.out).mono ?_); (case side1 => repeat (first | exact (Kd.R_reads' HO190.out).2.2 | (with_reducible refine Kd.C_alloc ?_ _) | (with_reducible refine Kd.C_drewN ?_ _) | (with_reducible refine Kd.C_drew ?_))); (case side2 => exact (Kd.R_reads' HO190.out).2.1); rintro e w' ⟨rfl, ⟨nd, rfl⟩⟩; refine ⟨_, rfl, ?_⟩) | ((with_reducible refine gate_callee (f := 13) rfl ?_); refine goesL_ (some 41) rfl rfl Try.func13 (by kernel_rfl) rfl #[.int .i64 t192] rfl (by (try simp only [List.map_toArray, List.map_cons, List.map_nil]); first | done | rfl | (simp only [List.length_drop, List.length_take]; rfl)) ?_; (with_reducible refine (flagstonelaw01_num.calls t192 t193 _ A16.out).mono ?_); rintro e w' ⟨rfl, ⟨nd, rfl⟩⟩; refine ⟨_, rfl, ?_⟩))
            go_ret
            exact ⟨by first | rfl | (simp [errW_none, errW_some] <;> rfl) | (simp [*, errW_none, errW_some] <;> rfl), by repeat (first | (with_reducible first | exact HB.out | apply below_alloc | apply pw_below_drewN | apply below_drew1) | exact HB.out)⟩
        · rw [if_neg c14] at H
          exact absurd H (by simp)
      · rw [if_neg c12] at H
        have c12b0 : (t184 == 0) = false := beq_eq_false_iff_ne.mpr c12
        have c12b1 : (t184 != 0) = true := bne_iff_ne.mpr c12
        (first | rw [c12b0] | (simp only [i64_w, i32_w]; rw [c12b0]) | skip)
        by_cases c36 : (t180.length : Int) = 0
        · rw [if_pos c36] at H
          have c36b0 : ((t180.length : Int) == 0) = true := beq_iff_eq.mpr c36
          have c36b1 : ((t180.length : Int) != 0) = false := bne_eq_false_iff_eq.mpr c36
          clear c36
          have H' := Aside0.mk H
          clear H
          obtain ⟨Ao37, co37, eo37⟩ := Kd.R_slice HO183.out
          subst eo37
          go_wp2
          go_meet
          case rel => exact ⟨_, H', ⟨by first | omega | exact Nat.le_refl _⟩, ⟨by repeat (first | (with_reducible first | exact HB.out | apply below_alloc | apply pw_below_drewN | apply below_drew1) | exact HB.out)⟩⟩
        · rw [if_neg c36] at H
          have c36b0 : ((t180.length : Int) == 0) = false := beq_eq_false_iff_ne.mpr c36
          have c36b1 : ((t180.length : Int) != 0) = true := bne_iff_ne.mpr c36
          have c36b2 : ¬ (t180 = []) := fun h_ => c36 (by rw [h_]; rfl)
          obtain rfl := Option.some.inj H
          obtain ⟨Ao38, co38, eo38⟩ := Kd.R_slice HO183.out
          subst eo38
          go_wp2
          go_ret
          exact ⟨by first | rfl | (simp [errW_none, errW_some] <;> rfl) | (simp [*, errW_none, errW_some] <;> rfl), by repeat (first | (with_reducible first | exact HB.out | apply below_alloc | apply pw_below_drewN | apply below_drew1) | exact HB.out)⟩
    case rest =>
      clear HC9
      try clear c1
      try clear p2
      try clear c3
      try clear c5
      try clear c6
      try clear c11
      try clear c12
      try clear c12b0
      try clear c12b1
      try clear c13
      try clear c14
      try clear c15
      try clear c17
      try clear c17b0
      try clear c17b1
      try clear c18
      try clear c18b0
      try clear c18b1
      try clear c19
      try clear c19b0
      try clear c19b1
      try clear c36
      try clear c36b0
      try clear c36b1
      try clear c36b2
      obtain ⟨kq, HA, HJ8, HB⟩ := hcut
      cases kq with
      | zero => exact absurd HA.out (by simp [flagstonelaw01_OctetsBack.j0])
      | succ kj8 =>
        have H := HA.out
        clear HA
        simp only [flagstonelaw01_OctetsBack.j0] at H
        replace H := Option.bind_eq_some_iff.mp H
        obtain ⟨⟨t194, t195⟩, A390, H⟩ := H
        replace H : ((flagstonelaw01_num.f t195).bind fun t198 => (if t198 = 0 then ((flagstoneplain_CopyBytes.f l3).bind fun t199 => (if t199.length + t194.length < 140737488355328 then ((octets_Read.f (t199 ++ t194) (l3.length : Int)).bind fun bt205 => ((flagstonelaw01_num.f bt205.2.2).bind fun t208 => (if t208 = 0 then (if bt205.1.toList = a2.toList then (some (bt205.2.1 == (wrap64 ((l3.length : Int) + (t194.length : Int))))) else (some false)) else (some false)))) else (none))) else (some ((t194.length : Int) == 0)))) = some r := H
        have A39 := Aside0.mk A390
        clear A390
        replace H := Option.bind_eq_some_iff.mp H
        obtain ⟨t198, A400, H⟩ := H
        replace H : (if t198 = 0 then ((flagstoneplain_CopyBytes.f l3).bind fun t199 => (if t199.length + t194.length < 140737488355328 then ((octets_Read.f (t199 ++ t194) (l3.length : Int)).bind fun bt205 => ((flagstonelaw01_num.f bt205.2.2).bind fun t208 => (if t208 = 0 then (if bt205.1.toList = a2.toList then (some (bt205.2.1 == (wrap64 ((l3.length : Int) + (t194.length : Int))))) else (some false)) else (some false)))) else (none))) else (some ((t194.length : Int) == 0))) = some r := H
        have A40 := Aside0.mk A400
        clear A400
        by_cases c41 : t198 = 0
        · rw [if_pos c41] at H
          have c41b0 : (t198 == 0) = true := beq_iff_eq.mpr c41
          have c41b1 : (t198 != 0) = false := bne_eq_false_iff_eq.mpr c41
          clear c41
          replace H := Option.bind_eq_some_iff.mp H
          obtain ⟨t199, A420, H⟩ := H
          replace H : (if t199.length + t194.length < 140737488355328 then ((octets_Read.f (t199 ++ t194) (l3.length : Int)).bind fun bt205 => ((flagstonelaw01_num.f bt205.2.2).bind fun t208 => (if t208 = 0 then (if bt205.1.toList = a2.toList then (some (bt205.2.1 == (wrap64 ((l3.length : Int) + (t194.length : Int))))) else (some false)) else (some false)))) else (none)) = some r := H
          have A42 := Aside0.mk A420
          clear A420
          by_cases c43 : t199.length + t194.length < 140737488355328
          · rw [if_pos c43] at H
            have LMc43 := Aside0.mk c43
            clear c43
            obtain ⟨y202, hy202⟩ : ∃ y_ : List Int, y_ = (t199 ++ t194) := ⟨_, rfl⟩
            replace H : ((octets_Read.f y202 (l3.length : Int)).bind fun bt205 => ((flagstonelaw01_num.f bt205.2.2).bind fun t208 => (if t208 = 0 then (if bt205.1.toList = a2.toList then (some (bt205.2.1 == (wrap64 ((l3.length : Int) + (t194.length : Int))))) else (some false)) else (some false)))) = some r := by first | (rw [hy202]; with_reducible exact H) | (have H2_ := (Option.bind_some _ _).symm.trans H; rw [hy202]; with_reducible exact H2_) | (have H2_ := (Option.bind_some _ _).symm.trans H; with_reducible exact H2_) | with_reducible exact H | (rw [hy202]; exact H) | exact H
            have Ny202 := Aside0.mk hy202
            clear hy202
            replace H := Option.bind_eq_some_iff.mp H
            obtain ⟨⟨t205, t206, t207⟩, A440, H⟩ := H
            replace H : ((flagstonelaw01_num.f t207).bind fun t208 => (if t208 = 0 then (if t205.toList = a2.toList then (some (t206 == (wrap64 ((l3.length : Int) + (t194.length : Int))))) else (some false)) else (some false))) = some r := H
            have A44 := Aside0.mk A440
            clear A440
            replace H := Option.bind_eq_some_iff.mp H
            obtain ⟨t208, A450, H⟩ := H
            replace H : (if t208 = 0 then (if t205.toList = a2.toList then (some (t206 == (wrap64 ((l3.length : Int) + (t194.length : Int))))) else (some false)) else (some false)) = some r := H
            have A45 := Aside0.mk A450
            clear A450
            by_cases c46 : t208 = 0
            · rw [if_pos c46] at H
              have c46b0 : (t208 == 0) = true := beq_iff_eq.mpr c46
              have c46b1 : (t208 != 0) = false := bne_eq_false_iff_eq.mpr c46
              clear c46
              by_cases c47 : t205.toList = a2.toList
              · rw [if_pos c47] at H
                have c47b0 : (t205.toList == a2.toList) = true := beq_iff_eq.mpr c47
                have c47b1 : (t205.toList != a2.toList) = false := bne_eq_false_iff_eq.mpr c47
                clear c47
                obtain rfl := Option.some.inj H
                go_wp2_with (first | ((with_reducible refine gate_callee (f := 19) rfl ?_); refine goesL_ (some 59) rfl rfl Try.func19 (by kernel_rfl) rfl #[.string a2] rfl (by (try simp only [List.map_toArray, List.map_cons, List.map_nil]); first | done | rfl | (simp only [List.length_drop, List.length_take]; rfl)) ?_; (with_reducible refine (octets_Text.calls a2 t194 t195 _ A39.out).mono ?_); rintro e w48 ⟨v196, rfl, ho0, hb⟩; refine ⟨_, rfl, ?_⟩; have n0_ := Aside0.mk (Kd.R_lower ho0 (below_size (by repeat (first | (with_reducible first | exact HB.out | apply below_alloc | apply pw_below_drewN | apply below_drew1) | exact HB.out)))); have n1_ := Aside0.mk (below_step (by repeat (first | (with_reducible first | exact HB.out | apply below_alloc | apply pw_below_drewN | apply below_drew1) | exact HB.out)) hb); clear HB; have HO197 := n0_; have HB := n1_; clear n0_ n1_; (try clear hb); (try clear hb2); (try clear hk); (try clear hi); (try clear ho0)) | ((with_reducible refine gate_callee (f := 13) rfl ?_); refine goesL_ (some 63) rfl rfl Try.func13 (by kernel_rfl) rfl #[.int .i64 t195] rfl (by (try simp only [List.map_toArray, List.map_cons, List.map_nil]); first | done | rfl | (simp only [List.length_drop, List.length_take]; rfl)) ?_; (with_reducible refine (flagstonelaw01_num.calls t195 t198 _ A40.out).mono ?_); rintro e w' ⟨rfl, ⟨nd, rfl⟩⟩; refine ⟨_, rfl, ?_⟩) | ((with_reducible refine gate_callee (f := 15) rfl ?_); refine goesL_ (some 70) rfl rfl Try.func15 (by kernel_rfl) rfl #[.slice A3 l3.length c3] rfl (by (try simp only [List.map_toArray, List.map_cons, List.map_nil]); first | done | rfl | (simp only [List.length_drop, List.length_take]; rfl)) ?_; (with_reducible refine (flagstoneplain_CopyBytes.calls _ _ l3 t199 _ ?side1 ?side2 A42.out).mono ?_); (case side1 => repeat (first | exact (Kd.C_below HR3.out (by repeat (first | (with_reducible first | exact HB.out | apply below_alloc | apply pw_below_drewN | apply below_drew1) | exact HB.out))) | (with_reducible refine Kd.C_alloc ?_ _) | (with_reducible refine Kd.C_drewN ?_ _) | (with_reducible refine Kd.C_drew ?_))); (case side2 => exact HC3.out); rintro e w49 ⟨v200, rfl, ho0, hb⟩; refine ⟨_, rfl, ?_⟩; have n0_ := Aside0.mk (Kd.R_elder' (by (with_reducible repeat (first | apply Kd.R_alloc | apply Kd.R_drewN | apply Kd.R_drew)); exact HO197.out) (Kd.R_base ho0) hb); have n1_ := Aside0.mk (Kd.R_lower (Kd.R_new' ho0 (Kd.R_lt (by (with_reducible repeat (first | apply Kd.R_alloc | apply Kd.R_drewN | apply Kd.R_drew)); exact HO197.out))) (below_size (by repeat (first | (with_reducible first | exact HB.out | apply below_alloc | apply pw_below_drewN | apply below_drew1) | exact HB.out)))); have n2_ := Aside0.mk (below_step (by repeat (first | (with_reducible first | exact HB.out | apply below_alloc | apply pw_below_drewN | apply below_drew1) | exact HB.out)) hb); clear HO197; clear HB; have HO197 := n0_; have HO201 := n1_; have HB := n2_; clear n0_ n1_ n2_; (try clear hb); (try clear hb2); (try clear hk); (try clear hi); (try clear ho0); obtain ⟨Ao51, co51, eo51⟩ := Kd.R_slice HO197.out; subst eo51) | ((with_reducible refine gate_builtin (b := .append) (xs := #[.tmp 70, .tmp 71]) rfl ?_); (try (refine gate_guard (by rfl) ?_; dsimp only)); at_builtin; refine Kd.R_append_rows (Kd.int .u8) (w0 := w) w.heap.size rfl (.tmp 70) (.tmp 71) 24 5 (.int .u8 0) 1 rfl Try.underlying24 info5 rfl (by decide) (by omega) v200 t199 t194 _ _ _ (fun k_ => some k_ ≠ (.slice Ao51 t194.length co51 : Value).ownBlock) (fun _ => False) rfl rfl ?aO ?aR (fun _ _ h => h) (fun _ h => h.elim) ?aF ?aB ?aS ?aL ?_; (case aR => repeat (first | exact (Kd.R_reads' HO197.out).2.2 | (with_reducible refine Kd.C_alloc ?_ _) | (with_reducible refine Kd.C_drewN ?_ _) | (with_reducible refine Kd.C_drew ?_))); (case aB => exact (by repeat (first | (with_reducible first | exact HB.out | apply below_alloc | apply pw_below_drewN | apply below_drew1) | exact HB.out))); (case aF => exact (fun k_ hk => Kd.fresh' (Kd.R_lt (by (with_reducible repeat (first | apply Kd.R_alloc | apply Kd.R_drewN | apply Kd.R_drew)); exact HO197.out)) k_ hk)); (case aO => exact (by (with_reducible repeat (first | apply Kd.R_alloc | apply Kd.R_drewN | apply Kd.R_drew)); exact Kd.R_mono HO201.out (fun _ hk => hk.2))); (case aS => exact (below_size (by repeat (first | (with_reducible first | exact HB.out | apply below_alloc | apply pw_below_drewN | apply below_drew1) | exact HB.out)))); (case aL => have := LMc43.out; omega); intro v203 w50 ho hb hg hat; rw [← Ny202.out] at ho; have n0_ := Aside0.mk (Kd.R_after (ok := (fun _ => True)) (by (with_reducible repeat (first | apply Kd.R_alloc | apply Kd.R_drewN | apply Kd.R_drew)); exact HO197.out) hg hat); have n1_ := Aside0.mk (hb); have n2_ := Aside0.mk (ho); clear HO197; clear HB; clear HO201; have HO197 := n0_; have HB := n1_; have HO204 := n2_; clear n0_ n1_ n2_; clear ho hb hg hat; obtain ⟨Ao52, co52, eo52⟩ := Kd.R_slice HO204.out; subst eo52) | ((with_reducible refine gate_callee (f := 21) rfl ?_); refine goesL_ (some 75) rfl rfl Try.func21 (by kernel_rfl) rfl #[.slice Ao52 y202.length co52, .int .i64 (l3.length : Int)] rfl (by (try simp only [List.map_toArray, List.map_cons, List.map_nil]); first | done | rfl | (simp only [List.length_drop, List.length_take]; rfl)) ?_; (with_reducible refine (octets_Read.calls _ _ y202 (l3.length : Int) t205 t206 t207 _ ?side1 ?side2 A44.out).mono ?_); (case side1 => repeat (first | exact (Kd.R_reads' HO204.out).2.2 | (with_reducible refine Kd.C_alloc ?_ _) | (with_reducible refine Kd.C_drewN ?_ _) | (with_reducible refine Kd.C_drew ?_))); (case side2 => exact (Kd.R_reads' HO204.out).2.1); rintro e w' ⟨rfl, ⟨nd, rfl⟩⟩; refine ⟨_, rfl, ?_⟩) | ((with_reducible refine gate_callee (f := 13) rfl ?_); refine goesL_ (some 80) rfl rfl Try.func13 (by kernel_rfl) rfl #[.int .i64 t207] rfl (by (try simp only [List.map_toArray, List.map_cons, List.map_nil]); first | done | rfl | (simp only [List.length_drop, List.length_take]; rfl)) ?_; (with_reducible refine (flagstonelaw01_num.calls t207 t208 _ A45.out).mono ?_); rintro e w' ⟨rfl, ⟨nd, rfl⟩⟩; refine ⟨_, rfl, ?_⟩))
                go_ret
                exact ⟨by first | rfl | (simp [errW_none, errW_some] <;> rfl) | (simp [*, errW_none, errW_some] <;> rfl), by repeat (first | (with_reducible first | exact HB.out | apply below_alloc | apply pw_below_drewN | apply below_drew1) | exact HB.out)⟩
              · rw [if_neg c47] at H
                have c47b0 : (t205.toList == a2.toList) = false := beq_eq_false_iff_ne.mpr c47
                have c47b1 : (t205.toList != a2.toList) = true := bne_iff_ne.mpr c47
                obtain rfl := Option.some.inj H
                go_wp2_with (first | ((with_reducible refine gate_callee (f := 19) rfl ?_); refine goesL_ (some 59) rfl rfl Try.func19 (by kernel_rfl) rfl #[.string a2] rfl (by (try simp only [List.map_toArray, List.map_cons, List.map_nil]); first | done | rfl | (simp only [List.length_drop, List.length_take]; rfl)) ?_; (with_reducible refine (octets_Text.calls a2 t194 t195 _ A39.out).mono ?_); rintro e w53 ⟨v196, rfl, ho0, hb⟩; refine ⟨_, rfl, ?_⟩; have n0_ := Aside0.mk (Kd.R_lower ho0 (below_size (by repeat (first | (with_reducible first | exact HB.out | apply below_alloc | apply pw_below_drewN | apply below_drew1) | exact HB.out)))); have n1_ := Aside0.mk (below_step (by repeat (first | (with_reducible first | exact HB.out | apply below_alloc | apply pw_below_drewN | apply below_drew1) | exact HB.out)) hb); clear HB; have HO197 := n0_; have HB := n1_; clear n0_ n1_; (try clear hb); (try clear hb2); (try clear hk); (try clear hi); (try clear ho0)) | ((with_reducible refine gate_callee (f := 13) rfl ?_); refine goesL_ (some 63) rfl rfl Try.func13 (by kernel_rfl) rfl #[.int .i64 t195] rfl (by (try simp only [List.map_toArray, List.map_cons, List.map_nil]); first | done | rfl | (simp only [List.length_drop, List.length_take]; rfl)) ?_; (with_reducible refine (flagstonelaw01_num.calls t195 t198 _ A40.out).mono ?_); rintro e w' ⟨rfl, ⟨nd, rfl⟩⟩; refine ⟨_, rfl, ?_⟩) | ((with_reducible refine gate_callee (f := 15) rfl ?_); refine goesL_ (some 70) rfl rfl Try.func15 (by kernel_rfl) rfl #[.slice A3 l3.length c3] rfl (by (try simp only [List.map_toArray, List.map_cons, List.map_nil]); first | done | rfl | (simp only [List.length_drop, List.length_take]; rfl)) ?_; (with_reducible refine (flagstoneplain_CopyBytes.calls _ _ l3 t199 _ ?side1 ?side2 A42.out).mono ?_); (case side1 => repeat (first | exact (Kd.C_below HR3.out (by repeat (first | (with_reducible first | exact HB.out | apply below_alloc | apply pw_below_drewN | apply below_drew1) | exact HB.out))) | (with_reducible refine Kd.C_alloc ?_ _) | (with_reducible refine Kd.C_drewN ?_ _) | (with_reducible refine Kd.C_drew ?_))); (case side2 => exact HC3.out); rintro e w54 ⟨v200, rfl, ho0, hb⟩; refine ⟨_, rfl, ?_⟩; have n0_ := Aside0.mk (Kd.R_elder' (by (with_reducible repeat (first | apply Kd.R_alloc | apply Kd.R_drewN | apply Kd.R_drew)); exact HO197.out) (Kd.R_base ho0) hb); have n1_ := Aside0.mk (Kd.R_lower (Kd.R_new' ho0 (Kd.R_lt (by (with_reducible repeat (first | apply Kd.R_alloc | apply Kd.R_drewN | apply Kd.R_drew)); exact HO197.out))) (below_size (by repeat (first | (with_reducible first | exact HB.out | apply below_alloc | apply pw_below_drewN | apply below_drew1) | exact HB.out)))); have n2_ := Aside0.mk (below_step (by repeat (first | (with_reducible first | exact HB.out | apply below_alloc | apply pw_below_drewN | apply below_drew1) | exact HB.out)) hb); clear HO197; clear HB; have HO197 := n0_; have HO201 := n1_; have HB := n2_; clear n0_ n1_ n2_; (try clear hb); (try clear hb2); (try clear hk); (try clear hi); (try clear ho0); obtain ⟨Ao56, co56, eo56⟩ := Kd.R_slice HO197.out; subst eo56) | ((with_reducible refine gate_builtin (b := .append) (xs := #[.tmp 70, .tmp 71]) rfl ?_); (try (refine gate_guard (by rfl) ?_; dsimp only)); at_builtin; refine Kd.R_append_rows (Kd.int .u8) (w0 := w) w.heap.size rfl (.tmp 70) (.tmp 71) 24 5 (.int .u8 0) 1 rfl Try.underlying24 info5 rfl (by decide) (by omega) v200 t199 t194 _ _ _ (fun k_ => some k_ ≠ (.slice Ao56 t194.length co56 : Value).ownBlock) (fun _ => False) rfl rfl ?aO ?aR (fun _ _ h => h) (fun _ h => h.elim) ?aF ?aB ?aS ?aL ?_; (case aR => repeat (first | exact (Kd.R_reads' HO197.out).2.2 | (with_reducible refine Kd.C_alloc ?_ _) | (with_reducible refine Kd.C_drewN ?_ _) | (with_reducible refine Kd.C_drew ?_))); (case aB => exact (by repeat (first | (with_reducible first | exact HB.out | apply below_alloc | apply pw_below_drewN | apply below_drew1) | exact HB.out))); (case aF => exact (fun k_ hk => Kd.fresh' (Kd.R_lt (by (with_reducible repeat (first | apply Kd.R_alloc | apply Kd.R_drewN | apply Kd.R_drew)); exact HO197.out)) k_ hk)); (case aO => exact (by (with_reducible repeat (first | apply Kd.R_alloc | apply Kd.R_drewN | apply Kd.R_drew)); exact Kd.R_mono HO201.out (fun _ hk => hk.2))); (case aS => exact (below_size (by repeat (first | (with_reducible first | exact HB.out | apply below_alloc | apply pw_below_drewN | apply below_drew1) | exact HB.out)))); (case aL => have := LMc43.out; omega); intro v203 w55 ho hb hg hat; rw [← Ny202.out] at ho; have n0_ := Aside0.mk (Kd.R_after (ok := (fun _ => True)) (by (with_reducible repeat (first | apply Kd.R_alloc | apply Kd.R_drewN | apply Kd.R_drew)); exact HO197.out) hg hat); have n1_ := Aside0.mk (hb); have n2_ := Aside0.mk (ho); clear HO197; clear HB; clear HO201; have HO197 := n0_; have HB := n1_; have HO204 := n2_; clear n0_ n1_ n2_; clear ho hb hg hat; obtain ⟨Ao57, co57, eo57⟩ := Kd.R_slice HO204.out; subst eo57) | ((with_reducible refine gate_callee (f := 21) rfl ?_); refine goesL_ (some 75) rfl rfl Try.func21 (by kernel_rfl) rfl #[.slice Ao57 y202.length co57, .int .i64 (l3.length : Int)] rfl (by (try simp only [List.map_toArray, List.map_cons, List.map_nil]); first | done | rfl | (simp only [List.length_drop, List.length_take]; rfl)) ?_; (with_reducible refine (octets_Read.calls _ _ y202 (l3.length : Int) t205 t206 t207 _ ?side1 ?side2 A44.out).mono ?_); (case side1 => repeat (first | exact (Kd.R_reads' HO204.out).2.2 | (with_reducible refine Kd.C_alloc ?_ _) | (with_reducible refine Kd.C_drewN ?_ _) | (with_reducible refine Kd.C_drew ?_))); (case side2 => exact (Kd.R_reads' HO204.out).2.1); rintro e w' ⟨rfl, ⟨nd, rfl⟩⟩; refine ⟨_, rfl, ?_⟩) | ((with_reducible refine gate_callee (f := 13) rfl ?_); refine goesL_ (some 80) rfl rfl Try.func13 (by kernel_rfl) rfl #[.int .i64 t207] rfl (by (try simp only [List.map_toArray, List.map_cons, List.map_nil]); first | done | rfl | (simp only [List.length_drop, List.length_take]; rfl)) ?_; (with_reducible refine (flagstonelaw01_num.calls t207 t208 _ A45.out).mono ?_); rintro e w' ⟨rfl, ⟨nd, rfl⟩⟩; refine ⟨_, rfl, ?_⟩))
                go_ret
                exact ⟨by first | rfl | (simp [errW_none, errW_some] <;> rfl) | (simp [*, errW_none, errW_some] <;> rfl), by repeat (first | (with_reducible first | exact HB.out | apply below_alloc | apply pw_below_drewN | apply below_drew1) | exact HB.out)⟩
            · rw [if_neg c46] at H
              have c46b0 : (t208 == 0) = false := beq_eq_false_iff_ne.mpr c46
              have c46b1 : (t208 != 0) = true := bne_iff_ne.mpr c46
              obtain rfl := Option.some.inj H
              go_wp2_with (first | ((with_reducible refine gate_callee (f := 19) rfl ?_); refine goesL_ (some 59) rfl rfl Try.func19 (by kernel_rfl) rfl #[.string a2] rfl (by (try simp only [List.map_toArray, List.map_cons, List.map_nil]); first | done | rfl | (simp only [List.length_drop, List.length_take]; rfl)) ?_; (with_reducible refine (octets_Text.calls a2 t194 t195 _ A39.out).mono ?_); rintro e w58 ⟨v196, rfl, ho0, hb⟩; refine ⟨_, rfl, ?_⟩; have n0_ := Aside0.mk (Kd.R_lower ho0 (below_size (by repeat (first | (with_reducible first | exact HB.out | apply below_alloc | apply pw_below_drewN | apply below_drew1) | exact HB.out)))); have n1_ := Aside0.mk (below_step (by repeat (first | (with_reducible first | exact HB.out | apply below_alloc | apply pw_below_drewN | apply below_drew1) | exact HB.out)) hb); clear HB; have HO197 := n0_; have HB := n1_; clear n0_ n1_; (try clear hb); (try clear hb2); (try clear hk); (try clear hi); (try clear ho0)) | ((with_reducible refine gate_callee (f := 13) rfl ?_); refine goesL_ (some 63) rfl rfl Try.func13 (by kernel_rfl) rfl #[.int .i64 t195] rfl (by (try simp only [List.map_toArray, List.map_cons, List.map_nil]); first | done | rfl | (simp only [List.length_drop, List.length_take]; rfl)) ?_; (with_reducible refine (flagstonelaw01_num.calls t195 t198 _ A40.out).mono ?_); rintro e w' ⟨rfl, ⟨nd, rfl⟩⟩; refine ⟨_, rfl, ?_⟩) | ((with_reducible refine gate_callee (f := 15) rfl ?_); refine goesL_ (some 70) rfl rfl Try.func15 (by kernel_rfl) rfl #[.slice A3 l3.length c3] rfl (by (try simp only [List.map_toArray, List.map_cons, List.map_nil]); first | done | rfl | (simp only [List.length_drop, List.length_take]; rfl)) ?_; (with_reducible refine (flagstoneplain_CopyBytes.calls _ _ l3 t199 _ ?side1 ?side2 A42.out).mono ?_); (case side1 => repeat (first | exact (Kd.C_below HR3.out (by repeat (first | (with_reducible first | exact HB.out | apply below_alloc | apply pw_below_drewN | apply below_drew1) | exact HB.out))) | (with_reducible refine Kd.C_alloc ?_ _) | (with_reducible refine Kd.C_drewN ?_ _) | (with_reducible refine Kd.C_drew ?_))); (case side2 => exact HC3.out); rintro e w59 ⟨v200, rfl, ho0, hb⟩; refine ⟨_, rfl, ?_⟩; have n0_ := Aside0.mk (Kd.R_elder' (by (with_reducible repeat (first | apply Kd.R_alloc | apply Kd.R_drewN | apply Kd.R_drew)); exact HO197.out) (Kd.R_base ho0) hb); have n1_ := Aside0.mk (Kd.R_lower (Kd.R_new' ho0 (Kd.R_lt (by (with_reducible repeat (first | apply Kd.R_alloc | apply Kd.R_drewN | apply Kd.R_drew)); exact HO197.out))) (below_size (by repeat (first | (with_reducible first | exact HB.out | apply below_alloc | apply pw_below_drewN | apply below_drew1) | exact HB.out)))); have n2_ := Aside0.mk (below_step (by repeat (first | (with_reducible first | exact HB.out | apply below_alloc | apply pw_below_drewN | apply below_drew1) | exact HB.out)) hb); clear HO197; clear HB; have HO197 := n0_; have HO201 := n1_; have HB := n2_; clear n0_ n1_ n2_; (try clear hb); (try clear hb2); (try clear hk); (try clear hi); (try clear ho0); obtain ⟨Ao61, co61, eo61⟩ := Kd.R_slice HO197.out; subst eo61) | ((with_reducible refine gate_builtin (b := .append) (xs := #[.tmp 70, .tmp 71]) rfl ?_); (try (refine gate_guard (by rfl) ?_; dsimp only)); at_builtin; refine Kd.R_append_rows (Kd.int .u8) (w0 := w) w.heap.size rfl (.tmp 70) (.tmp 71) 24 5 (.int .u8 0) 1 rfl Try.underlying24 info5 rfl (by decide) (by omega) v200 t199 t194 _ _ _ (fun k_ => some k_ ≠ (.slice Ao61 t194.length co61 : Value).ownBlock) (fun _ => False) rfl rfl ?aO ?aR (fun _ _ h => h) (fun _ h => h.elim) ?aF ?aB ?aS ?aL ?_; (case aR => repeat (first | exact (Kd.R_reads' HO197.out).2.2 | (with_reducible refine Kd.C_alloc ?_ _) | (with_reducible refine Kd.C_drewN ?_ _) | (with_reducible refine Kd.C_drew ?_))); (case aB => exact (by repeat (first | (with_reducible first | exact HB.out | apply below_alloc | apply pw_below_drewN | apply below_drew1) | exact HB.out))); (case aF => exact (fun k_ hk => Kd.fresh' (Kd.R_lt (by (with_reducible repeat (first | apply Kd.R_alloc | apply Kd.R_drewN | apply Kd.R_drew)); exact HO197.out)) k_ hk)); (case aO => exact (by (with_reducible repeat (first | apply Kd.R_alloc | apply Kd.R_drewN | apply Kd.R_drew)); exact Kd.R_mono HO201.out (fun _ hk => hk.2))); (case aS => exact (below_size (by repeat (first | (with_reducible first | exact HB.out | apply below_alloc | apply pw_below_drewN | apply below_drew1) | exact HB.out)))); (case aL => have := LMc43.out; omega); intro v203 w60 ho hb hg hat; rw [← Ny202.out] at ho; have n0_ := Aside0.mk (Kd.R_after (ok := (fun _ => True)) (by (with_reducible repeat (first | apply Kd.R_alloc | apply Kd.R_drewN | apply Kd.R_drew)); exact HO197.out) hg hat); have n1_ := Aside0.mk (hb); have n2_ := Aside0.mk (ho); clear HO197; clear HB; clear HO201; have HO197 := n0_; have HB := n1_; have HO204 := n2_; clear n0_ n1_ n2_; clear ho hb hg hat; obtain ⟨Ao62, co62, eo62⟩ := Kd.R_slice HO204.out; subst eo62) | ((with_reducible refine gate_callee (f := 21) rfl ?_); refine goesL_ (some 75) rfl rfl Try.func21 (by kernel_rfl) rfl #[.slice Ao62 y202.length co62, .int .i64 (l3.length : Int)] rfl (by (try simp only [List.map_toArray, List.map_cons, List.map_nil]); first | done | rfl | (simp only [List.length_drop, List.length_take]; rfl)) ?_; (with_reducible refine (octets_Read.calls _ _ y202 (l3.length : Int) t205 t206 t207 _ ?side1 ?side2 A44.out).mono ?_); (case side1 => repeat (first | exact (Kd.R_reads' HO204.out).2.2 | (with_reducible refine Kd.C_alloc ?_ _) | (with_reducible refine Kd.C_drewN ?_ _) | (with_reducible refine Kd.C_drew ?_))); (case side2 => exact (Kd.R_reads' HO204.out).2.1); rintro e w' ⟨rfl, ⟨nd, rfl⟩⟩; refine ⟨_, rfl, ?_⟩) | ((with_reducible refine gate_callee (f := 13) rfl ?_); refine goesL_ (some 80) rfl rfl Try.func13 (by kernel_rfl) rfl #[.int .i64 t207] rfl (by (try simp only [List.map_toArray, List.map_cons, List.map_nil]); first | done | rfl | (simp only [List.length_drop, List.length_take]; rfl)) ?_; (with_reducible refine (flagstonelaw01_num.calls t207 t208 _ A45.out).mono ?_); rintro e w' ⟨rfl, ⟨nd, rfl⟩⟩; refine ⟨_, rfl, ?_⟩))
              go_ret
              exact ⟨by first | rfl | (simp [errW_none, errW_some] <;> rfl) | (simp [*, errW_none, errW_some] <;> rfl), by repeat (first | (with_reducible first | exact HB.out | apply below_alloc | apply pw_below_drewN | apply below_drew1) | exact HB.out)⟩
          · rw [if_neg c43] at H
            exact absurd H (by simp)
        · rw [if_neg c41] at H
          have c41b0 : (t198 == 0) = false := beq_eq_false_iff_ne.mpr c41
          have c41b1 : (t198 != 0) = true := bne_iff_ne.mpr c41
          obtain rfl := Option.some.inj H
          go_wp2_with (first | ((with_reducible refine gate_callee (f := 19) rfl ?_); refine goesL_ (some 59) rfl rfl Try.func19 (by kernel_rfl) rfl #[.string a2] rfl (by (try simp only [List.map_toArray, List.map_cons, List.map_nil]); first | done | rfl | (simp only [List.length_drop, List.length_take]; rfl)) ?_; (with_reducible refine (octets_Text.calls a2 t194 t195 _ A39.out).mono ?_); rintro e w63 ⟨v196, rfl, ho0, hb⟩; refine ⟨_, rfl, ?_⟩; have n0_ := Aside0.mk (Kd.R_lower ho0 (below_size (by repeat (first | (with_reducible first | exact HB.out | apply below_alloc | apply pw_below_drewN | apply below_drew1) | exact HB.out)))); have n1_ := Aside0.mk (below_step (by repeat (first | (with_reducible first | exact HB.out | apply below_alloc | apply pw_below_drewN | apply below_drew1) | exact HB.out)) hb); clear HB; have HO197 := n0_; have HB := n1_; clear n0_ n1_; (try clear hb); (try clear hb2); (try clear hk); (try clear hi); (try clear ho0)) | ((with_reducible refine gate_callee (f := 13) rfl ?_); refine goesL_ (some 63) rfl rfl Try.func13 (by kernel_rfl) rfl #[.int .i64 t195] rfl (by (try simp only [List.map_toArray, List.map_cons, List.map_nil]); first | done | rfl | (simp only [List.length_drop, List.length_take]; rfl)) ?_; (with_reducible refine (flagstonelaw01_num.calls t195 t198 _ A40.out).mono ?_); rintro e w' ⟨rfl, ⟨nd, rfl⟩⟩; refine ⟨_, rfl, ?_⟩; obtain ⟨Ao64, co64, eo64⟩ := Kd.R_slice HO197.out; subst eo64))
          go_ret
          exact ⟨by first | rfl | (simp [errW_none, errW_some] <;> rfl) | (simp [*, errW_none, errW_some] <;> rfl), by repeat (first | (with_reducible first | exact HB.out | apply below_alloc | apply pw_below_drewN | apply below_drew1) | exact HB.out)⟩
  · replace c6 := Bool.eq_false_iff.mpr c6
    subst c6
    have H1 : (some false) = some r := by rw [if_neg (show ¬ (false = true) by decide)] at H; exact H
    clear H
    have H := H1
    clear H1
    obtain rfl := Option.some.inj H
    go_enter Try.func5, Try.ntmps5
    go_wp2_with (first | ((with_reducible refine gate_callee (f := 11) rfl ?_); refine goesL_ (some 18) rfl rfl Try.func11 (by kernel_rfl) rfl #[] rfl (by (try simp only [List.map_toArray, List.map_cons, List.map_nil]); first | done | rfl | (simp only [List.length_drop, List.length_take]; rfl)) ?_; (with_reducible refine (flagstonelaw01_alive.calls k  false _ A5.out).mono ?_); rintro e w65 ⟨rfl, hb⟩; refine ⟨_, rfl, ?_⟩; have n0_ := Aside0.mk (below_step (by repeat (first | (with_reducible first | exact HB.out | apply below_alloc | apply pw_below_drewN | apply below_drew1) | exact HB.out)) hb); clear HB; have HB := n0_; clear n0_; (try clear hb); (try clear hb2); (try clear hk); (try clear hi)))
    go_ret
    exact ⟨by first | rfl | (simp [errW_none, errW_some] <;> rfl) | (simp [*, errW_none, errW_some] <;> rfl), by repeat (first | (with_reducible first | exact HB.out | apply below_alloc | apply pw_below_drewN | apply below_drew1) | exact HB.out)⟩

/-- THE ONE PURE STATEMENT of flagstonelaw01_OctetsBack: yours. -/
def flagstonelaw01_OctetsBack.Pure : Prop := ∀ (a0 : Int) (a1 : Int) (a2 : ByteArray) (l3 : List Int), (Lit.int .u64 a0).wf = true → (Lit.int .i64 a1).wf = true → a2.size ≤ 140737488351232 → l3.length ≤ maxLen → l3.length * 1 ≤ 140737488351232 → (∀ x ∈ l3, (Lit.int .u8 x).wf = true) → ∃ k, flagstonelaw01_OctetsBack.f k a0 a1 a2 l3 = some true
theorem flagstonelaw01_OctetsBack.walk (P : flagstonelaw01_OctetsBack.Pure) (a0 : Int) (a1 : Int) (a2 : ByteArray) (a3 : Option Addr) (len3 cap3 : Nat) (z3 : List Int) (w : World) (w0 : (Lit.int .u64 a0).wf = true) (w1 : (Lit.int .i64 a1).wf = true) (w2 : a2.size ≤ 140737488351232) (w3 : (a3 = none ∧ len3 = 0 ∧ cap3 = 0 ∧ z3 = []) ∨ ∃ x, a3 = some x ∧ len3 ≤ cap3 ∧ cap3 ≤ maxLen ∧ z3.length = cap3 ∧ (∀ i, i < z3.length → w.cell? (x.add i) = some (.int .u8 (z3.getD i 0))) ∧ ∀ n ∈ z3, (Lit.int .u8 n).wf = true) (y3 : len3 * 1 ≤ 140737488351232) :
    Calls Try.prog 5 #[.int .u64 a0, .int .i64 a1, .string a2, .slice a3 len3 cap3] w fun e w' => e = .returned (.bool true) ∧ Below w.heap.size w w' := by
  obtain ⟨l3, rfl, hr3, hm3, hw3, hc3⟩ := ReadsInt.ofRowC w3
  obtain ⟨k, h⟩ := P a0 a1 a2 l3 w0 w1 w2 hm3 y3 hw3
  refine (flagstonelaw01_OctetsBack.calls k a0 a1 a2 _ _ l3 true w (Kd.C_of_reads (d := (0 : Int)) (h1 := fun _ => rfl) hr3) hc3 h).mono ?_
  rintro e w' ⟨rfl, hd⟩
  exact ⟨rfl, hd⟩

end Go.Proofs.Ythkjahoebkicbaa.Hy
