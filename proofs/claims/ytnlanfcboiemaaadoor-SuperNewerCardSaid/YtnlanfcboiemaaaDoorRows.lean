/-
  NARROWER THAN 'FOR EVERY INPUT', by the rows' own cells (each row's printed sentence says how): SuperPlaces: laid · SuperBack: laid · SuperApart: laid · SuperRot: laid · SuperTells: laid · SuperNewer: laid · SuperShort: laid.
  DERIVED. THE GIVEN ROWS OF THIS SEAT. 7 by the template 'for every input the law returns true; each argument reads behind the call as it read before'; 0 by the template 'total and deterministic' (their statements: YtnlanfcboiemaaaDoorTotals.lean).
  GIVEN WITH THE SEED: the statements are not yours to turn. If you find one false, say at which input.
  Laid BY PROGRAM, IN A SANDBOX (cutbox-rows.mjs): the forced cells as the released guide's own fill.sh prints them over the translation cc0824ae696f37a2… (all of the seat's roots in one cut). By AI agents, Wed Nov 11 2026. No macro, syntax, notation, axiom, sorry.
-/
import Derived.Test.YtnlanfcboiemaaaDoorChecked
import GoSem.PinnedTables
import GoSem.Claim
import GoSem.ClaimJoined
import GoSem.ClaimMapViews
import Derived.JoinedTies
import Derived.KernelRfl
namespace Go.Proofs.YtnlanfcboiemaaaDoor
/- THE CELL 'sum', in the pinned program and in every row, IS THE sha256 OF THE DUMP (.gsa) THAT YtnlanfcboiemaaaDoorProg.lean LOADS. Nothing in Lean hashes anything: it is a label: what it is worth is what the hold of that sum in a sandbox is worth. -/
noncomputable def Tryd.pinned : Pinned := { name := "ytnlanfcboiemaaadoor", sum := "cc0824ae696f37a2deba2114298c39b21d6d6f3ea8c00a1311139d1563c6ac8c", checked := Tryd.checked }
namespace Rows
def none {H : Type} : Left H := { results := [], args := [] }

/- WHAT THE LISTED PACKAGE-LEVEL VARIABLES READ AS WHEN THE CALL BEGINS. Each datum BY PROGRAM (the guide's laid-datum.mjs) off the statement by which the dump's own 'gosem.cut.vars' lays the variable. In a bare row this is a premise. The card (YtnlanfcboiemaaaDoorCards.lean) ties it to the program's text. -/
def laid_unicode_utf8_acceptRanges {H : Type} : DataW H := .agg [.agg [.lit (.int .u8 128), .lit (.int .u8 191)], .agg [.lit (.int .u8 160), .lit (.int .u8 191)], .agg [.lit (.int .u8 128), .lit (.int .u8 159)], .agg [.lit (.int .u8 144), .lit (.int .u8 191)], .agg [.lit (.int .u8 128), .lit (.int .u8 143)], .agg [.lit (.int .u8 0), .lit (.int .u8 0)], .agg [.lit (.int .u8 0), .lit (.int .u8 0)], .agg [.lit (.int .u8 0), .lit (.int .u8 0)], .agg [.lit (.int .u8 0), .lit (.int .u8 0)], .agg [.lit (.int .u8 0), .lit (.int .u8 0)], .agg [.lit (.int .u8 0), .lit (.int .u8 0)], .agg [.lit (.int .u8 0), .lit (.int .u8 0)], .agg [.lit (.int .u8 0), .lit (.int .u8 0)], .agg [.lit (.int .u8 0), .lit (.int .u8 0)], .agg [.lit (.int .u8 0), .lit (.int .u8 0)], .agg [.lit (.int .u8 0), .lit (.int .u8 0)]]
/-- One of Go's own tables, pinned by name: the form's constant. -/
def laid_unicode_utf8_first : DataW Unit := Go.Pinned.utf8First

/-- 'flagstonelaw04.SuperPlaces': WHATEVER THE INPUT: true; the input reads as it did. -/
def superPlacesSpec : ChangeSpec := { name := "superPlaces", fn := fun _ => fun
  | [d] => { results := [.lit (.bool true)], args := [d] }
  | _ => none }
def superPlacesRow : OpenClaim := { program := "ytnlanfcboiemaaadoor", sum := "cc0824ae696f37a2deba2114298c39b21d6d6f3ea8c00a1311139d1563c6ac8c", func := "flagstone/flagstonelaw04.SuperPlaces", spec := "superPlaces", named := ["unicode/utf8.first", "unicode/utf8.acceptRanges"], apart := false, laid := [("unicode/utf8.acceptRanges", laid_unicode_utf8_acceptRanges), ("unicode/utf8.first", laid_unicode_utf8_first)] }
def SuperPlacesSaid : Prop := superPlacesRow.holds Tryd.pinned (OpenSpec.ofChange superPlacesSpec)

/-- ITS FALSE NEIGHBOUR: 'it returns false'. Refute it at one input. -/
def superPlacesWrong : ChangeSpec := { name := "superPlaces", fn := fun _ => fun
  | [d] => { results := [.lit (.bool false)], args := [d] }
  | _ => none }
def SuperPlacesWrongFalsely : Prop := superPlacesRow.holds Tryd.pinned (OpenSpec.ofChange superPlacesWrong)

/-- 'flagstonelaw04.SuperBack': WHATEVER THE INPUT: true; the input reads as it did. -/
def superBackSpec : ChangeSpec := { name := "superBack", fn := fun _ => fun
  | [d1, d2] => { results := [.lit (.bool true)], args := [d1, d2] }
  | _ => none }
def superBackRow : OpenClaim := { program := "ytnlanfcboiemaaadoor", sum := "cc0824ae696f37a2deba2114298c39b21d6d6f3ea8c00a1311139d1563c6ac8c", func := "flagstone/flagstonelaw04.SuperBack", spec := "superBack", named := ["unicode/utf8.first", "unicode/utf8.acceptRanges"], apart := false, laid := [("unicode/utf8.acceptRanges", laid_unicode_utf8_acceptRanges), ("unicode/utf8.first", laid_unicode_utf8_first)] }
def SuperBackSaid : Prop := superBackRow.holds Tryd.pinned (OpenSpec.ofChange superBackSpec)

/-- ITS FALSE NEIGHBOUR: 'it returns false'. Refute it at one input. -/
def superBackWrong : ChangeSpec := { name := "superBack", fn := fun _ => fun
  | [d1, d2] => { results := [.lit (.bool false)], args := [d1, d2] }
  | _ => none }
def SuperBackWrongFalsely : Prop := superBackRow.holds Tryd.pinned (OpenSpec.ofChange superBackWrong)

/-- 'flagstonelaw04.SuperApart': WHATEVER THE INPUT: true; the input reads as it did. -/
def superApartSpec : ChangeSpec := { name := "superApart", fn := fun _ => fun
  | [d1, d2] => { results := [.lit (.bool true)], args := [d1, d2] }
  | _ => none }
def superApartRow : OpenClaim := { program := "ytnlanfcboiemaaadoor", sum := "cc0824ae696f37a2deba2114298c39b21d6d6f3ea8c00a1311139d1563c6ac8c", func := "flagstone/flagstonelaw04.SuperApart", spec := "superApart", named := ["unicode/utf8.first", "unicode/utf8.acceptRanges"], apart := false, laid := [("unicode/utf8.acceptRanges", laid_unicode_utf8_acceptRanges), ("unicode/utf8.first", laid_unicode_utf8_first)] }
def SuperApartSaid : Prop := superApartRow.holds Tryd.pinned (OpenSpec.ofChange superApartSpec)

/-- ITS FALSE NEIGHBOUR: 'it returns false'. Refute it at one input. -/
def superApartWrong : ChangeSpec := { name := "superApart", fn := fun _ => fun
  | [d1, d2] => { results := [.lit (.bool false)], args := [d1, d2] }
  | _ => none }
def SuperApartWrongFalsely : Prop := superApartRow.holds Tryd.pinned (OpenSpec.ofChange superApartWrong)

/-- 'flagstonelaw04.SuperRot': WHATEVER THE INPUT: true; the input reads as it did. -/
def superRotSpec : ChangeSpec := { name := "superRot", fn := fun _ => fun
  | [d1, d2, d3] => { results := [.lit (.bool true)], args := [d1, d2, d3] }
  | _ => none }
def superRotRow : OpenClaim := { program := "ytnlanfcboiemaaadoor", sum := "cc0824ae696f37a2deba2114298c39b21d6d6f3ea8c00a1311139d1563c6ac8c", func := "flagstone/flagstonelaw04.SuperRot", spec := "superRot", named := ["unicode/utf8.first", "unicode/utf8.acceptRanges"], apart := false, laid := [("unicode/utf8.acceptRanges", laid_unicode_utf8_acceptRanges), ("unicode/utf8.first", laid_unicode_utf8_first)] }
def SuperRotSaid : Prop := superRotRow.holds Tryd.pinned (OpenSpec.ofChange superRotSpec)

/-- ITS FALSE NEIGHBOUR: 'it returns false'. Refute it at one input. -/
def superRotWrong : ChangeSpec := { name := "superRot", fn := fun _ => fun
  | [d1, d2, d3] => { results := [.lit (.bool false)], args := [d1, d2, d3] }
  | _ => none }
def SuperRotWrongFalsely : Prop := superRotRow.holds Tryd.pinned (OpenSpec.ofChange superRotWrong)

/-- 'flagstonelaw04.SuperTells': WHATEVER THE INPUT: true; the input reads as it did. -/
def superTellsSpec : ChangeSpec := { name := "superTells", fn := fun _ => fun
  | [d1, d2, d3] => { results := [.lit (.bool true)], args := [d1, d2, d3] }
  | _ => none }
def superTellsRow : OpenClaim := { program := "ytnlanfcboiemaaadoor", sum := "cc0824ae696f37a2deba2114298c39b21d6d6f3ea8c00a1311139d1563c6ac8c", func := "flagstone/flagstonelaw04.SuperTells", spec := "superTells", named := ["unicode/utf8.first", "unicode/utf8.acceptRanges"], apart := false, laid := [("unicode/utf8.acceptRanges", laid_unicode_utf8_acceptRanges), ("unicode/utf8.first", laid_unicode_utf8_first)] }
def SuperTellsSaid : Prop := superTellsRow.holds Tryd.pinned (OpenSpec.ofChange superTellsSpec)

/-- ITS FALSE NEIGHBOUR: 'it returns false'. Refute it at one input. -/
def superTellsWrong : ChangeSpec := { name := "superTells", fn := fun _ => fun
  | [d1, d2, d3] => { results := [.lit (.bool false)], args := [d1, d2, d3] }
  | _ => none }
def SuperTellsWrongFalsely : Prop := superTellsRow.holds Tryd.pinned (OpenSpec.ofChange superTellsWrong)

/-- 'flagstonelaw04.SuperNewer': WHATEVER THE INPUT: true; the input reads as it did. -/
def superNewerSpec : ChangeSpec := { name := "superNewer", fn := fun _ => fun
  | [d1, d2, d3, d4] => { results := [.lit (.bool true)], args := [d1, d2, d3, d4] }
  | _ => none }
def superNewerRow : OpenClaim := { program := "ytnlanfcboiemaaadoor", sum := "cc0824ae696f37a2deba2114298c39b21d6d6f3ea8c00a1311139d1563c6ac8c", func := "flagstone/flagstonelaw04.SuperNewer", spec := "superNewer", named := ["unicode/utf8.first", "unicode/utf8.acceptRanges"], apart := false, laid := [("unicode/utf8.acceptRanges", laid_unicode_utf8_acceptRanges), ("unicode/utf8.first", laid_unicode_utf8_first)] }
def SuperNewerSaid : Prop := superNewerRow.holds Tryd.pinned (OpenSpec.ofChange superNewerSpec)

/-- ITS FALSE NEIGHBOUR: 'it returns false'. Refute it at one input. -/
def superNewerWrong : ChangeSpec := { name := "superNewer", fn := fun _ => fun
  | [d1, d2, d3, d4] => { results := [.lit (.bool false)], args := [d1, d2, d3, d4] }
  | _ => none }
def SuperNewerWrongFalsely : Prop := superNewerRow.holds Tryd.pinned (OpenSpec.ofChange superNewerWrong)

/-- 'flagstonelaw04.SuperShort': WHATEVER THE INPUT: true; the input reads as it did. -/
def superShortSpec : ChangeSpec := { name := "superShort", fn := fun _ => fun
  | [d1, d2] => { results := [.lit (.bool true)], args := [d1, d2] }
  | _ => none }
def superShortRow : OpenClaim := { program := "ytnlanfcboiemaaadoor", sum := "cc0824ae696f37a2deba2114298c39b21d6d6f3ea8c00a1311139d1563c6ac8c", func := "flagstone/flagstonelaw04.SuperShort", spec := "superShort", named := ["unicode/utf8.first", "unicode/utf8.acceptRanges"], apart := false, laid := [("unicode/utf8.acceptRanges", laid_unicode_utf8_acceptRanges), ("unicode/utf8.first", laid_unicode_utf8_first)] }
def SuperShortSaid : Prop := superShortRow.holds Tryd.pinned (OpenSpec.ofChange superShortSpec)

/-- ITS FALSE NEIGHBOUR: 'it returns false'. Refute it at one input. -/
def superShortWrong : ChangeSpec := { name := "superShort", fn := fun _ => fun
  | [d1, d2] => { results := [.lit (.bool false)], args := [d1, d2] }
  | _ => none }
def SuperShortWrongFalsely : Prop := superShortRow.holds Tryd.pinned (OpenSpec.ofChange superShortWrong)

/- THE SECOND FORM. 'bulk': how many values and letters a reading holds, each counted each time it is reached (what is shared counts as often as it is met; a slice's spare places count too). A statement '..UptoSaid' is the law's where the arguments, and the package variables that the reading takes, are together of bulk at most 1048576: NARROWER than '..Said'. Prove '..Said' where nothing that the law and all that it calls make is longer than what came in: it says more and counts as full. Else prove '..UptoSaid'. A law counts once. -/
mutual
def uptoBulk {H : Type} : DataW H → Nat
  | .lit (.string bytes) => bytes.length + 1
  | .lit _ => 1
  | .nil => 1
  | .ptr d => uptoBulk d + 1
  | .slice elems spare => uptoBulkAll elems + uptoBulkAll spare + 1
  | .agg parts => uptoBulkAll parts + 1
  | .iface _ d => uptoBulk d + 1
  | .map entries => uptoBulkEntries entries + 1
  | .held _ => 1
def uptoBulkAll {H : Type} : List (DataW H) → Nat
  | [] => 0
  | d :: r => uptoBulk d + uptoBulkAll r
def uptoBulkEntries {H : Type} : List (Lit × DataW H) → Nat
  | [] => 0
  | x :: r => uptoBulkEntry x + uptoBulkEntries r
def uptoBulkEntry {H : Type} : Lit × DataW H → Nat
  | (.string bytes, d) => bytes.length + uptoBulk d + 1
  | (_, d) => uptoBulk d + 1
 end
def uptoSmall : (H : Type) → List (DataW H) → Bool := fun _ ds => decide (uptoBulkAll ds ≤ 1048576)
def OpenSpec.upto (s : _root_.Go.ChangeSpec) : _root_.Go.OpenSpec := { _root_.Go.OpenSpec.ofChange s with cond := some uptoSmall }

/-- 'flagstonelaw04.SuperPlaces', WHERE WHAT IT READS IS OF BULK AT MOST 1048576: true; the input reads as it did. -/
def superPlacesUptoRow : OpenClaim := { program := "ytnlanfcboiemaaadoor", sum := "cc0824ae696f37a2deba2114298c39b21d6d6f3ea8c00a1311139d1563c6ac8c", func := "flagstone/flagstonelaw04.SuperPlaces", spec := "superPlaces", named := ["unicode/utf8.first", "unicode/utf8.acceptRanges"], apart := false, laid := [("unicode/utf8.acceptRanges", laid_unicode_utf8_acceptRanges), ("unicode/utf8.first", laid_unicode_utf8_first)], narrowed := true }
def SuperPlacesUptoSaid : Prop := superPlacesUptoRow.holds Tryd.pinned (OpenSpec.upto superPlacesSpec)

/-- 'flagstonelaw04.SuperBack', WHERE WHAT IT READS IS OF BULK AT MOST 1048576: true; the input reads as it did. -/
def superBackUptoRow : OpenClaim := { program := "ytnlanfcboiemaaadoor", sum := "cc0824ae696f37a2deba2114298c39b21d6d6f3ea8c00a1311139d1563c6ac8c", func := "flagstone/flagstonelaw04.SuperBack", spec := "superBack", named := ["unicode/utf8.first", "unicode/utf8.acceptRanges"], apart := false, laid := [("unicode/utf8.acceptRanges", laid_unicode_utf8_acceptRanges), ("unicode/utf8.first", laid_unicode_utf8_first)], narrowed := true }
def SuperBackUptoSaid : Prop := superBackUptoRow.holds Tryd.pinned (OpenSpec.upto superBackSpec)

/-- 'flagstonelaw04.SuperApart', WHERE WHAT IT READS IS OF BULK AT MOST 1048576: true; the input reads as it did. -/
def superApartUptoRow : OpenClaim := { program := "ytnlanfcboiemaaadoor", sum := "cc0824ae696f37a2deba2114298c39b21d6d6f3ea8c00a1311139d1563c6ac8c", func := "flagstone/flagstonelaw04.SuperApart", spec := "superApart", named := ["unicode/utf8.first", "unicode/utf8.acceptRanges"], apart := false, laid := [("unicode/utf8.acceptRanges", laid_unicode_utf8_acceptRanges), ("unicode/utf8.first", laid_unicode_utf8_first)], narrowed := true }
def SuperApartUptoSaid : Prop := superApartUptoRow.holds Tryd.pinned (OpenSpec.upto superApartSpec)

/-- 'flagstonelaw04.SuperRot', WHERE WHAT IT READS IS OF BULK AT MOST 1048576: true; the input reads as it did. -/
def superRotUptoRow : OpenClaim := { program := "ytnlanfcboiemaaadoor", sum := "cc0824ae696f37a2deba2114298c39b21d6d6f3ea8c00a1311139d1563c6ac8c", func := "flagstone/flagstonelaw04.SuperRot", spec := "superRot", named := ["unicode/utf8.first", "unicode/utf8.acceptRanges"], apart := false, laid := [("unicode/utf8.acceptRanges", laid_unicode_utf8_acceptRanges), ("unicode/utf8.first", laid_unicode_utf8_first)], narrowed := true }
def SuperRotUptoSaid : Prop := superRotUptoRow.holds Tryd.pinned (OpenSpec.upto superRotSpec)

/-- 'flagstonelaw04.SuperTells', WHERE WHAT IT READS IS OF BULK AT MOST 1048576: true; the input reads as it did. -/
def superTellsUptoRow : OpenClaim := { program := "ytnlanfcboiemaaadoor", sum := "cc0824ae696f37a2deba2114298c39b21d6d6f3ea8c00a1311139d1563c6ac8c", func := "flagstone/flagstonelaw04.SuperTells", spec := "superTells", named := ["unicode/utf8.first", "unicode/utf8.acceptRanges"], apart := false, laid := [("unicode/utf8.acceptRanges", laid_unicode_utf8_acceptRanges), ("unicode/utf8.first", laid_unicode_utf8_first)], narrowed := true }
def SuperTellsUptoSaid : Prop := superTellsUptoRow.holds Tryd.pinned (OpenSpec.upto superTellsSpec)

/-- 'flagstonelaw04.SuperNewer', WHERE WHAT IT READS IS OF BULK AT MOST 1048576: true; the input reads as it did. -/
def superNewerUptoRow : OpenClaim := { program := "ytnlanfcboiemaaadoor", sum := "cc0824ae696f37a2deba2114298c39b21d6d6f3ea8c00a1311139d1563c6ac8c", func := "flagstone/flagstonelaw04.SuperNewer", spec := "superNewer", named := ["unicode/utf8.first", "unicode/utf8.acceptRanges"], apart := false, laid := [("unicode/utf8.acceptRanges", laid_unicode_utf8_acceptRanges), ("unicode/utf8.first", laid_unicode_utf8_first)], narrowed := true }
def SuperNewerUptoSaid : Prop := superNewerUptoRow.holds Tryd.pinned (OpenSpec.upto superNewerSpec)

/-- 'flagstonelaw04.SuperShort', WHERE WHAT IT READS IS OF BULK AT MOST 1048576: true; the input reads as it did. -/
def superShortUptoRow : OpenClaim := { program := "ytnlanfcboiemaaadoor", sum := "cc0824ae696f37a2deba2114298c39b21d6d6f3ea8c00a1311139d1563c6ac8c", func := "flagstone/flagstonelaw04.SuperShort", spec := "superShort", named := ["unicode/utf8.first", "unicode/utf8.acceptRanges"], apart := false, laid := [("unicode/utf8.acceptRanges", laid_unicode_utf8_acceptRanges), ("unicode/utf8.first", laid_unicode_utf8_first)], narrowed := true }
def SuperShortUptoSaid : Prop := superShortUptoRow.holds Tryd.pinned (OpenSpec.upto superShortSpec)

end Rows
end Go.Proofs.YtnlanfcboiemaaaDoor
