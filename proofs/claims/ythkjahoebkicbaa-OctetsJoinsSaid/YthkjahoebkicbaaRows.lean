/-
  No cell of these rows narrows 'for every input' (looked for: loops, veiled, ifaces, maps, wideKeys, modest, calm, conditions, laid).
  DERIVED. THE GIVEN ROWS OF THIS SEAT. 8 by the template 'for every input the law returns true; each argument reads behind the call as it read before'; 0 by the template 'total and deterministic' (their statements: YthkjahoebkicbaaTotals.lean).
  GIVEN WITH THE SEED: the statements are not yours to turn. If you find one false, say at which input.
  Laid BY PROGRAM, IN A SANDBOX (cutbox-rows.mjs): the forced cells as the released guide's own fill.sh prints them over the translation f2a2da36926e57b9… (all of the seat's roots in one cut). By AI agents, Wed Nov 11 2026. No macro, syntax, notation, axiom, sorry.
-/
import Derived.Test.YthkjahoebkicbaaChecked
import GoSem.Claim
import GoSem.ClaimJoined
import GoSem.ClaimMapViews
import Derived.JoinedTies
import Derived.KernelRfl
namespace Go.Proofs.Ythkjahoebkicbaa
/- THE CELL 'sum', in the pinned program and in every row, IS THE sha256 OF THE DUMP (.gsa) THAT YthkjahoebkicbaaProg.lean LOADS. Nothing in Lean hashes anything: it is a label: what it is worth is what the hold of that sum in a sandbox is worth. -/
noncomputable def Try.pinned : Pinned := { name := "ythkjahoebkicbaa", sum := "f2a2da36926e57b90228175a89967ebeccefa7f49b056ec087382f050e05fb24", checked := Try.checked }
namespace Rows
def none {H : Type} : Left H := { results := [], args := [] }

/-- 'flagstonelaw01.OctetsApart': WHATEVER THE INPUT: true; the input reads as it did. -/
def octetsApartSpec : ChangeSpec := { name := "octetsApart", fn := fun _ => fun
  | [d1, d2, d3] => { results := [.lit (.bool true)], args := [d1, d2, d3] }
  | _ => none }
def octetsApartRow : OpenClaim := { program := "ythkjahoebkicbaa", sum := "f2a2da36926e57b90228175a89967ebeccefa7f49b056ec087382f050e05fb24", func := "flagstone/flagstonelaw01.OctetsApart", spec := "octetsApart", apart := false }
def OctetsApartSaid : Prop := octetsApartRow.holds Try.pinned (OpenSpec.ofChange octetsApartSpec)

/-- ITS FALSE NEIGHBOUR: 'it returns false'. Refute it at one input. -/
def octetsApartWrong : ChangeSpec := { name := "octetsApart", fn := fun _ => fun
  | [d1, d2, d3] => { results := [.lit (.bool false)], args := [d1, d2, d3] }
  | _ => none }
def OctetsApartWrongFalsely : Prop := octetsApartRow.holds Try.pinned (OpenSpec.ofChange octetsApartWrong)

/-- 'flagstonelaw01.OctetsTells': WHATEVER THE INPUT: true; the input reads as it did. -/
def octetsTellsSpec : ChangeSpec := { name := "octetsTells", fn := fun _ => fun
  | [d1, d2, d3, d4, d5] => { results := [.lit (.bool true)], args := [d1, d2, d3, d4, d5] }
  | _ => none }
def octetsTellsRow : OpenClaim := { program := "ythkjahoebkicbaa", sum := "f2a2da36926e57b90228175a89967ebeccefa7f49b056ec087382f050e05fb24", func := "flagstone/flagstonelaw01.OctetsTells", spec := "octetsTells", apart := false }
def OctetsTellsSaid : Prop := octetsTellsRow.holds Try.pinned (OpenSpec.ofChange octetsTellsSpec)

/-- ITS FALSE NEIGHBOUR: 'it returns false'. Refute it at one input. -/
def octetsTellsWrong : ChangeSpec := { name := "octetsTells", fn := fun _ => fun
  | [d1, d2, d3, d4, d5] => { results := [.lit (.bool false)], args := [d1, d2, d3, d4, d5] }
  | _ => none }
def OctetsTellsWrongFalsely : Prop := octetsTellsRow.holds Try.pinned (OpenSpec.ofChange octetsTellsWrong)

/-- 'flagstonelaw01.OctetsBack': WHATEVER THE INPUT: true; the input reads as it did. -/
def octetsBackSpec : ChangeSpec := { name := "octetsBack", fn := fun _ => fun
  | [d1, d2, d3, d4] => { results := [.lit (.bool true)], args := [d1, d2, d3, d4] }
  | _ => none }
def octetsBackRow : OpenClaim := { program := "ythkjahoebkicbaa", sum := "f2a2da36926e57b90228175a89967ebeccefa7f49b056ec087382f050e05fb24", func := "flagstone/flagstonelaw01.OctetsBack", spec := "octetsBack", apart := false }
def OctetsBackSaid : Prop := octetsBackRow.holds Try.pinned (OpenSpec.ofChange octetsBackSpec)

/-- ITS FALSE NEIGHBOUR: 'it returns false'. Refute it at one input. -/
def octetsBackWrong : ChangeSpec := { name := "octetsBack", fn := fun _ => fun
  | [d1, d2, d3, d4] => { results := [.lit (.bool false)], args := [d1, d2, d3, d4] }
  | _ => none }
def OctetsBackWrongFalsely : Prop := octetsBackRow.holds Try.pinned (OpenSpec.ofChange octetsBackWrong)

/-- 'flagstonelaw01.OctetsJoins': WHATEVER THE INPUT: true; the input reads as it did. -/
def octetsJoinsSpec : ChangeSpec := { name := "octetsJoins", fn := fun _ => fun
  | [d1, d2, d3, d4] => { results := [.lit (.bool true)], args := [d1, d2, d3, d4] }
  | _ => none }
def octetsJoinsRow : OpenClaim := { program := "ythkjahoebkicbaa", sum := "f2a2da36926e57b90228175a89967ebeccefa7f49b056ec087382f050e05fb24", func := "flagstone/flagstonelaw01.OctetsJoins", spec := "octetsJoins", apart := false }
def OctetsJoinsSaid : Prop := octetsJoinsRow.holds Try.pinned (OpenSpec.ofChange octetsJoinsSpec)

/-- ITS FALSE NEIGHBOUR: 'it returns false'. Refute it at one input. -/
def octetsJoinsWrong : ChangeSpec := { name := "octetsJoins", fn := fun _ => fun
  | [d1, d2, d3, d4] => { results := [.lit (.bool false)], args := [d1, d2, d3, d4] }
  | _ => none }
def OctetsJoinsWrongFalsely : Prop := octetsJoinsRow.holds Try.pinned (OpenSpec.ofChange octetsJoinsWrong)

/-- 'flagstonelaw01.OctetsOwn': WHATEVER THE INPUT: true; the input reads as it did. -/
def octetsOwnSpec : ChangeSpec := { name := "octetsOwn", fn := fun _ => fun
  | [d1, d2, d3] => { results := [.lit (.bool true)], args := [d1, d2, d3] }
  | _ => none }
def octetsOwnRow : OpenClaim := { program := "ythkjahoebkicbaa", sum := "f2a2da36926e57b90228175a89967ebeccefa7f49b056ec087382f050e05fb24", func := "flagstone/flagstonelaw01.OctetsOwn", spec := "octetsOwn", unfollowed := true, recurses := true, apart := false }
def OctetsOwnSaid : Prop := octetsOwnRow.holds Try.pinned (OpenSpec.ofChange octetsOwnSpec)

/-- ITS FALSE NEIGHBOUR: 'it returns false'. Refute it at one input. -/
def octetsOwnWrong : ChangeSpec := { name := "octetsOwn", fn := fun _ => fun
  | [d1, d2, d3] => { results := [.lit (.bool false)], args := [d1, d2, d3] }
  | _ => none }
def OctetsOwnWrongFalsely : Prop := octetsOwnRow.holds Try.pinned (OpenSpec.ofChange octetsOwnWrong)

/-- 'flagstonelaw01.OctetsLists': WHATEVER THE INPUT: true; the input reads as it did. -/
def octetsListsSpec : ChangeSpec := { name := "octetsLists", fn := fun _ => fun
  | [d1, d2, d3] => { results := [.lit (.bool true)], args := [d1, d2, d3] }
  | _ => none }
def octetsListsRow : OpenClaim := { program := "ythkjahoebkicbaa", sum := "f2a2da36926e57b90228175a89967ebeccefa7f49b056ec087382f050e05fb24", func := "flagstone/flagstonelaw01.OctetsLists", spec := "octetsLists", unfollowed := true, recurses := true, apart := false }
def OctetsListsSaid : Prop := octetsListsRow.holds Try.pinned (OpenSpec.ofChange octetsListsSpec)

/-- ITS FALSE NEIGHBOUR: 'it returns false'. Refute it at one input. -/
def octetsListsWrong : ChangeSpec := { name := "octetsLists", fn := fun _ => fun
  | [d1, d2, d3] => { results := [.lit (.bool false)], args := [d1, d2, d3] }
  | _ => none }
def OctetsListsWrongFalsely : Prop := octetsListsRow.holds Try.pinned (OpenSpec.ofChange octetsListsWrong)

/-- 'flagstonelaw01.OctetsUnpacks': WHATEVER THE INPUT: true; the input reads as it did. -/
def octetsUnpacksSpec : ChangeSpec := { name := "octetsUnpacks", fn := fun _ => fun
  | [d1, d2, d3] => { results := [.lit (.bool true)], args := [d1, d2, d3] }
  | _ => none }
def octetsUnpacksRow : OpenClaim := { program := "ythkjahoebkicbaa", sum := "f2a2da36926e57b90228175a89967ebeccefa7f49b056ec087382f050e05fb24", func := "flagstone/flagstonelaw01.OctetsUnpacks", spec := "octetsUnpacks", unfollowed := true, recurses := true, apart := false }
def OctetsUnpacksSaid : Prop := octetsUnpacksRow.holds Try.pinned (OpenSpec.ofChange octetsUnpacksSpec)

/-- ITS FALSE NEIGHBOUR: 'it returns false'. Refute it at one input. -/
def octetsUnpacksWrong : ChangeSpec := { name := "octetsUnpacks", fn := fun _ => fun
  | [d1, d2, d3] => { results := [.lit (.bool false)], args := [d1, d2, d3] }
  | _ => none }
def OctetsUnpacksWrongFalsely : Prop := octetsUnpacksRow.holds Try.pinned (OpenSpec.ofChange octetsUnpacksWrong)

/-- 'flagstonelaw01.OctetsCut': WHATEVER THE INPUT: true; the input reads as it did. -/
def octetsCutSpec : ChangeSpec := { name := "octetsCut", fn := fun _ => fun
  | [d1, d2, d3, d4] => { results := [.lit (.bool true)], args := [d1, d2, d3, d4] }
  | _ => none }
def octetsCutRow : OpenClaim := { program := "ythkjahoebkicbaa", sum := "f2a2da36926e57b90228175a89967ebeccefa7f49b056ec087382f050e05fb24", func := "flagstone/flagstonelaw01.OctetsCut", spec := "octetsCut", unfollowed := true, recurses := true, apart := false }
def OctetsCutSaid : Prop := octetsCutRow.holds Try.pinned (OpenSpec.ofChange octetsCutSpec)

/-- ITS FALSE NEIGHBOUR: 'it returns false'. Refute it at one input. -/
def octetsCutWrong : ChangeSpec := { name := "octetsCut", fn := fun _ => fun
  | [d1, d2, d3, d4] => { results := [.lit (.bool false)], args := [d1, d2, d3, d4] }
  | _ => none }
def OctetsCutWrongFalsely : Prop := octetsCutRow.holds Try.pinned (OpenSpec.ofChange octetsCutWrong)

/- THE SECOND FORM. 'bulk': how many values and letters a reading holds, each counted each time it is reached (what is shared counts as often as it is met; a slice's spare places count too). A statement '..UptoSaid' is the law's where the arguments, and the package variables that the reading takes, are together of bulk at most 1048576: NARROWER than '..Said'. Prove '..Said' where nothing that the law and all that it calls make is longer than what came in: it says more and counts as full. Else prove '..UptoSaid'. A law counts once. -/
mutual
def uptoBulk {H : Type} : DataW H → Nat
  | .lit (.string bytes) => bytes.length + 1
  | .lit _ => 1
  | .nil => 1
  | .ptr d => uptoBulk d + 1
  | .slice elems spare => uptoBulkAll elems + uptoBulkAll spare + 1
  | .agg parts => uptoBulkAll parts + 1
  | .iface _ d => uptoBulk d + 1
  | .map entries => uptoBulkEntries entries + 1
  | .held _ => 1
def uptoBulkAll {H : Type} : List (DataW H) → Nat
  | [] => 0
  | d :: r => uptoBulk d + uptoBulkAll r
def uptoBulkEntries {H : Type} : List (Lit × DataW H) → Nat
  | [] => 0
  | x :: r => uptoBulkEntry x + uptoBulkEntries r
def uptoBulkEntry {H : Type} : Lit × DataW H → Nat
  | (.string bytes, d) => bytes.length + uptoBulk d + 1
  | (_, d) => uptoBulk d + 1
 end
def uptoSmall : (H : Type) → List (DataW H) → Bool := fun _ ds => decide (uptoBulkAll ds ≤ 1048576)
def OpenSpec.upto (s : _root_.Go.ChangeSpec) : _root_.Go.OpenSpec := { _root_.Go.OpenSpec.ofChange s with cond := some uptoSmall }

/-- 'flagstonelaw01.OctetsApart', WHERE WHAT IT READS IS OF BULK AT MOST 1048576: true; the input reads as it did. -/
def octetsApartUptoRow : OpenClaim := { program := "ythkjahoebkicbaa", sum := "f2a2da36926e57b90228175a89967ebeccefa7f49b056ec087382f050e05fb24", func := "flagstone/flagstonelaw01.OctetsApart", spec := "octetsApart", apart := false, narrowed := true }
def OctetsApartUptoSaid : Prop := octetsApartUptoRow.holds Try.pinned (OpenSpec.upto octetsApartSpec)

/-- 'flagstonelaw01.OctetsTells', WHERE WHAT IT READS IS OF BULK AT MOST 1048576: true; the input reads as it did. -/
def octetsTellsUptoRow : OpenClaim := { program := "ythkjahoebkicbaa", sum := "f2a2da36926e57b90228175a89967ebeccefa7f49b056ec087382f050e05fb24", func := "flagstone/flagstonelaw01.OctetsTells", spec := "octetsTells", apart := false, narrowed := true }
def OctetsTellsUptoSaid : Prop := octetsTellsUptoRow.holds Try.pinned (OpenSpec.upto octetsTellsSpec)

/-- 'flagstonelaw01.OctetsBack', WHERE WHAT IT READS IS OF BULK AT MOST 1048576: true; the input reads as it did. -/
def octetsBackUptoRow : OpenClaim := { program := "ythkjahoebkicbaa", sum := "f2a2da36926e57b90228175a89967ebeccefa7f49b056ec087382f050e05fb24", func := "flagstone/flagstonelaw01.OctetsBack", spec := "octetsBack", apart := false, narrowed := true }
def OctetsBackUptoSaid : Prop := octetsBackUptoRow.holds Try.pinned (OpenSpec.upto octetsBackSpec)

/-- 'flagstonelaw01.OctetsJoins', WHERE WHAT IT READS IS OF BULK AT MOST 1048576: true; the input reads as it did. -/
def octetsJoinsUptoRow : OpenClaim := { program := "ythkjahoebkicbaa", sum := "f2a2da36926e57b90228175a89967ebeccefa7f49b056ec087382f050e05fb24", func := "flagstone/flagstonelaw01.OctetsJoins", spec := "octetsJoins", apart := false, narrowed := true }
def OctetsJoinsUptoSaid : Prop := octetsJoinsUptoRow.holds Try.pinned (OpenSpec.upto octetsJoinsSpec)

/-- 'flagstonelaw01.OctetsOwn', WHERE WHAT IT READS IS OF BULK AT MOST 1048576: true; the input reads as it did. -/
def octetsOwnUptoRow : OpenClaim := { program := "ythkjahoebkicbaa", sum := "f2a2da36926e57b90228175a89967ebeccefa7f49b056ec087382f050e05fb24", func := "flagstone/flagstonelaw01.OctetsOwn", spec := "octetsOwn", unfollowed := true, recurses := true, apart := false, narrowed := true }
def OctetsOwnUptoSaid : Prop := octetsOwnUptoRow.holds Try.pinned (OpenSpec.upto octetsOwnSpec)

/-- 'flagstonelaw01.OctetsLists', WHERE WHAT IT READS IS OF BULK AT MOST 1048576: true; the input reads as it did. -/
def octetsListsUptoRow : OpenClaim := { program := "ythkjahoebkicbaa", sum := "f2a2da36926e57b90228175a89967ebeccefa7f49b056ec087382f050e05fb24", func := "flagstone/flagstonelaw01.OctetsLists", spec := "octetsLists", unfollowed := true, recurses := true, apart := false, narrowed := true }
def OctetsListsUptoSaid : Prop := octetsListsUptoRow.holds Try.pinned (OpenSpec.upto octetsListsSpec)

/-- 'flagstonelaw01.OctetsUnpacks', WHERE WHAT IT READS IS OF BULK AT MOST 1048576: true; the input reads as it did. -/
def octetsUnpacksUptoRow : OpenClaim := { program := "ythkjahoebkicbaa", sum := "f2a2da36926e57b90228175a89967ebeccefa7f49b056ec087382f050e05fb24", func := "flagstone/flagstonelaw01.OctetsUnpacks", spec := "octetsUnpacks", unfollowed := true, recurses := true, apart := false, narrowed := true }
def OctetsUnpacksUptoSaid : Prop := octetsUnpacksUptoRow.holds Try.pinned (OpenSpec.upto octetsUnpacksSpec)

/-- 'flagstonelaw01.OctetsCut', WHERE WHAT IT READS IS OF BULK AT MOST 1048576: true; the input reads as it did. -/
def octetsCutUptoRow : OpenClaim := { program := "ythkjahoebkicbaa", sum := "f2a2da36926e57b90228175a89967ebeccefa7f49b056ec087382f050e05fb24", func := "flagstone/flagstonelaw01.OctetsCut", spec := "octetsCut", unfollowed := true, recurses := true, apart := false, narrowed := true }
def OctetsCutUptoSaid : Prop := octetsCutUptoRow.holds Try.pinned (OpenSpec.upto octetsCutSpec)

end Rows
end Go.Proofs.Ythkjahoebkicbaa
