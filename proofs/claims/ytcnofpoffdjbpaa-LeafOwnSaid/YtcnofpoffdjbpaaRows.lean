/-
  No cell of these rows narrows 'for every input' (looked for: loops, veiled, ifaces, maps, wideKeys, modest, calm, conditions, laid).
  DERIVED. THE GIVEN ROWS OF THIS SEAT. 7 by the template 'for every input the law returns true; each argument reads behind the call as it read before'; 0 by the template 'total and deterministic' (their statements: YtcnofpoffdjbpaaTotals.lean).
  GIVEN WITH THE SEED: the statements are not yours to turn. If you find one false, say at which input.
  Laid BY PROGRAM, IN A SANDBOX (cutbox-rows.mjs): the forced cells as the released guide's own fill.sh prints them over the translation 5d316775ac2e1f59… (all of the seat's roots in one cut). By AI agents, Wed Nov 11 2026. No macro, syntax, notation, axiom, sorry.
-/
import Derived.Test.YtcnofpoffdjbpaaChecked
import GoSem.Claim
import GoSem.ClaimJoined
import GoSem.ClaimMapViews
import Derived.JoinedTies
import Derived.KernelRfl
namespace Go.Proofs.Ytcnofpoffdjbpaa
/- THE CELL 'sum', in the pinned program and in every row, IS THE sha256 OF THE DUMP (.gsa) THAT YtcnofpoffdjbpaaProg.lean LOADS. Nothing in Lean hashes anything: it is a label: what it is worth is what the hold of that sum in a sandbox is worth. -/
noncomputable def Try.pinned : Pinned := { name := "ytcnofpoffdjbpaa", sum := "5d316775ac2e1f595c24d20b31161664272beedd4dc46f1a53aad39c373a5549", checked := Try.checked }
namespace Rows
def none {H : Type} : Left H := { results := [], args := [] }

/-- 'flagstonelaw07.LeafApart': WHATEVER THE INPUT: true; the input reads as it did. -/
def leafApartSpec : ChangeSpec := { name := "leafApart", fn := fun _ => fun
  | [d1, d2] => { results := [.lit (.bool true)], args := [d1, d2] }
  | _ => none }
def leafApartRow : OpenClaim := { program := "ytcnofpoffdjbpaa", sum := "5d316775ac2e1f595c24d20b31161664272beedd4dc46f1a53aad39c373a5549", func := "flagstone/flagstonelaw07.LeafApart", spec := "leafApart", apart := false }
def LeafApartSaid : Prop := leafApartRow.holds Try.pinned (OpenSpec.ofChange leafApartSpec)

/-- ITS FALSE NEIGHBOUR: 'it returns false'. Refute it at one input. -/
def leafApartWrong : ChangeSpec := { name := "leafApart", fn := fun _ => fun
  | [d1, d2] => { results := [.lit (.bool false)], args := [d1, d2] }
  | _ => none }
def LeafApartWrongFalsely : Prop := leafApartRow.holds Try.pinned (OpenSpec.ofChange leafApartWrong)

/-- 'flagstonelaw07.LeafWays': WHATEVER THE INPUT: true; the input reads as it did. -/
def leafWaysSpec : ChangeSpec := { name := "leafWays", fn := fun _ => fun
  | [d1, d2] => { results := [.lit (.bool true)], args := [d1, d2] }
  | _ => none }
def leafWaysRow : OpenClaim := { program := "ytcnofpoffdjbpaa", sum := "5d316775ac2e1f595c24d20b31161664272beedd4dc46f1a53aad39c373a5549", func := "flagstone/flagstonelaw07.LeafWays", spec := "leafWays", apart := false }
def LeafWaysSaid : Prop := leafWaysRow.holds Try.pinned (OpenSpec.ofChange leafWaysSpec)

/-- ITS FALSE NEIGHBOUR: 'it returns false'. Refute it at one input. -/
def leafWaysWrong : ChangeSpec := { name := "leafWays", fn := fun _ => fun
  | [d1, d2] => { results := [.lit (.bool false)], args := [d1, d2] }
  | _ => none }
def LeafWaysWrongFalsely : Prop := leafWaysRow.holds Try.pinned (OpenSpec.ofChange leafWaysWrong)

/-- 'flagstonelaw07.LeafBack': WHATEVER THE INPUT: true; the input reads as it did. -/
def leafBackSpec : ChangeSpec := { name := "leafBack", fn := fun _ => fun
  | [d1, d2] => { results := [.lit (.bool true)], args := [d1, d2] }
  | _ => none }
def leafBackRow : OpenClaim := { program := "ytcnofpoffdjbpaa", sum := "5d316775ac2e1f595c24d20b31161664272beedd4dc46f1a53aad39c373a5549", func := "flagstone/flagstonelaw07.LeafBack", spec := "leafBack", unfollowed := true, recurses := true, apart := false }
def LeafBackSaid : Prop := leafBackRow.holds Try.pinned (OpenSpec.ofChange leafBackSpec)

/-- ITS FALSE NEIGHBOUR: 'it returns false'. Refute it at one input. -/
def leafBackWrong : ChangeSpec := { name := "leafBack", fn := fun _ => fun
  | [d1, d2] => { results := [.lit (.bool false)], args := [d1, d2] }
  | _ => none }
def LeafBackWrongFalsely : Prop := leafBackRow.holds Try.pinned (OpenSpec.ofChange leafBackWrong)

/-- 'flagstonelaw07.LeafRot': WHATEVER THE INPUT: true; the input reads as it did. -/
def leafRotSpec : ChangeSpec := { name := "leafRot", fn := fun _ => fun
  | [d1, d2, d3] => { results := [.lit (.bool true)], args := [d1, d2, d3] }
  | _ => none }
def leafRotRow : OpenClaim := { program := "ytcnofpoffdjbpaa", sum := "5d316775ac2e1f595c24d20b31161664272beedd4dc46f1a53aad39c373a5549", func := "flagstone/flagstonelaw07.LeafRot", spec := "leafRot", unfollowed := true, recurses := true, apart := false }
def LeafRotSaid : Prop := leafRotRow.holds Try.pinned (OpenSpec.ofChange leafRotSpec)

/-- ITS FALSE NEIGHBOUR: 'it returns false'. Refute it at one input. -/
def leafRotWrong : ChangeSpec := { name := "leafRot", fn := fun _ => fun
  | [d1, d2, d3] => { results := [.lit (.bool false)], args := [d1, d2, d3] }
  | _ => none }
def LeafRotWrongFalsely : Prop := leafRotRow.holds Try.pinned (OpenSpec.ofChange leafRotWrong)

/-- 'flagstonelaw07.LeafOwn': WHATEVER THE INPUT: true; the input reads as it did. -/
def leafOwnSpec : ChangeSpec := { name := "leafOwn", fn := fun _ => fun
  | [d1, d2] => { results := [.lit (.bool true)], args := [d1, d2] }
  | _ => none }
def leafOwnRow : OpenClaim := { program := "ytcnofpoffdjbpaa", sum := "5d316775ac2e1f595c24d20b31161664272beedd4dc46f1a53aad39c373a5549", func := "flagstone/flagstonelaw07.LeafOwn", spec := "leafOwn", unfollowed := true, recurses := true, apart := false }
def LeafOwnSaid : Prop := leafOwnRow.holds Try.pinned (OpenSpec.ofChange leafOwnSpec)

/-- ITS FALSE NEIGHBOUR: 'it returns false'. Refute it at one input. -/
def leafOwnWrong : ChangeSpec := { name := "leafOwn", fn := fun _ => fun
  | [d1, d2] => { results := [.lit (.bool false)], args := [d1, d2] }
  | _ => none }
def LeafOwnWrongFalsely : Prop := leafOwnRow.holds Try.pinned (OpenSpec.ofChange leafOwnWrong)

/-- 'flagstonelaw07.LeafShort': WHATEVER THE INPUT: true; the input reads as it did. -/
def leafShortSpec : ChangeSpec := { name := "leafShort", fn := fun _ => fun
  | [d1, d2] => { results := [.lit (.bool true)], args := [d1, d2] }
  | _ => none }
def leafShortRow : OpenClaim := { program := "ytcnofpoffdjbpaa", sum := "5d316775ac2e1f595c24d20b31161664272beedd4dc46f1a53aad39c373a5549", func := "flagstone/flagstonelaw07.LeafShort", spec := "leafShort", unfollowed := true, recurses := true, apart := false }
def LeafShortSaid : Prop := leafShortRow.holds Try.pinned (OpenSpec.ofChange leafShortSpec)

/-- ITS FALSE NEIGHBOUR: 'it returns false'. Refute it at one input. -/
def leafShortWrong : ChangeSpec := { name := "leafShort", fn := fun _ => fun
  | [d1, d2] => { results := [.lit (.bool false)], args := [d1, d2] }
  | _ => none }
def LeafShortWrongFalsely : Prop := leafShortRow.holds Try.pinned (OpenSpec.ofChange leafShortWrong)

/-- 'flagstonelaw07.LeafTells': WHATEVER THE INPUT: true; the input reads as it did. -/
def leafTellsSpec : ChangeSpec := { name := "leafTells", fn := fun _ => fun
  | [d1, d2, d3] => { results := [.lit (.bool true)], args := [d1, d2, d3] }
  | _ => none }
def leafTellsRow : OpenClaim := { program := "ytcnofpoffdjbpaa", sum := "5d316775ac2e1f595c24d20b31161664272beedd4dc46f1a53aad39c373a5549", func := "flagstone/flagstonelaw07.LeafTells", spec := "leafTells", unfollowed := true, recurses := true, apart := false }
def LeafTellsSaid : Prop := leafTellsRow.holds Try.pinned (OpenSpec.ofChange leafTellsSpec)

/-- ITS FALSE NEIGHBOUR: 'it returns false'. Refute it at one input. -/
def leafTellsWrong : ChangeSpec := { name := "leafTells", fn := fun _ => fun
  | [d1, d2, d3] => { results := [.lit (.bool false)], args := [d1, d2, d3] }
  | _ => none }
def LeafTellsWrongFalsely : Prop := leafTellsRow.holds Try.pinned (OpenSpec.ofChange leafTellsWrong)

/- THE SECOND FORM. 'bulk': how many values and letters a reading holds, each counted each time it is reached (what is shared counts as often as it is met; a slice's spare places count too). A statement '..UptoSaid' is the law's where the arguments, and the package variables that the reading takes, are together of bulk at most 1048576: NARROWER than '..Said'. Prove '..Said' where nothing that the law and all that it calls make is longer than what came in: it says more and counts as full. Else prove '..UptoSaid'. A law counts once. -/
mutual
def uptoBulk {H : Type} : DataW H → Nat
  | .lit (.string bytes) => bytes.length + 1
  | .lit _ => 1
  | .nil => 1
  | .ptr d => uptoBulk d + 1
  | .slice elems spare => uptoBulkAll elems + uptoBulkAll spare + 1
  | .agg parts => uptoBulkAll parts + 1
  | .iface _ d => uptoBulk d + 1
  | .map entries => uptoBulkEntries entries + 1
  | .held _ => 1
def uptoBulkAll {H : Type} : List (DataW H) → Nat
  | [] => 0
  | d :: r => uptoBulk d + uptoBulkAll r
def uptoBulkEntries {H : Type} : List (Lit × DataW H) → Nat
  | [] => 0
  | x :: r => uptoBulkEntry x + uptoBulkEntries r
def uptoBulkEntry {H : Type} : Lit × DataW H → Nat
  | (.string bytes, d) => bytes.length + uptoBulk d + 1
  | (_, d) => uptoBulk d + 1
 end
def uptoSmall : (H : Type) → List (DataW H) → Bool := fun _ ds => decide (uptoBulkAll ds ≤ 1048576)
def OpenSpec.upto (s : _root_.Go.ChangeSpec) : _root_.Go.OpenSpec := { _root_.Go.OpenSpec.ofChange s with cond := some uptoSmall }

/-- 'flagstonelaw07.LeafApart', WHERE WHAT IT READS IS OF BULK AT MOST 1048576: true; the input reads as it did. -/
def leafApartUptoRow : OpenClaim := { program := "ytcnofpoffdjbpaa", sum := "5d316775ac2e1f595c24d20b31161664272beedd4dc46f1a53aad39c373a5549", func := "flagstone/flagstonelaw07.LeafApart", spec := "leafApart", apart := false, narrowed := true }
def LeafApartUptoSaid : Prop := leafApartUptoRow.holds Try.pinned (OpenSpec.upto leafApartSpec)

/-- 'flagstonelaw07.LeafWays', WHERE WHAT IT READS IS OF BULK AT MOST 1048576: true; the input reads as it did. -/
def leafWaysUptoRow : OpenClaim := { program := "ytcnofpoffdjbpaa", sum := "5d316775ac2e1f595c24d20b31161664272beedd4dc46f1a53aad39c373a5549", func := "flagstone/flagstonelaw07.LeafWays", spec := "leafWays", apart := false, narrowed := true }
def LeafWaysUptoSaid : Prop := leafWaysUptoRow.holds Try.pinned (OpenSpec.upto leafWaysSpec)

/-- 'flagstonelaw07.LeafBack', WHERE WHAT IT READS IS OF BULK AT MOST 1048576: true; the input reads as it did. -/
def leafBackUptoRow : OpenClaim := { program := "ytcnofpoffdjbpaa", sum := "5d316775ac2e1f595c24d20b31161664272beedd4dc46f1a53aad39c373a5549", func := "flagstone/flagstonelaw07.LeafBack", spec := "leafBack", unfollowed := true, recurses := true, apart := false, narrowed := true }
def LeafBackUptoSaid : Prop := leafBackUptoRow.holds Try.pinned (OpenSpec.upto leafBackSpec)

/-- 'flagstonelaw07.LeafRot', WHERE WHAT IT READS IS OF BULK AT MOST 1048576: true; the input reads as it did. -/
def leafRotUptoRow : OpenClaim := { program := "ytcnofpoffdjbpaa", sum := "5d316775ac2e1f595c24d20b31161664272beedd4dc46f1a53aad39c373a5549", func := "flagstone/flagstonelaw07.LeafRot", spec := "leafRot", unfollowed := true, recurses := true, apart := false, narrowed := true }
def LeafRotUptoSaid : Prop := leafRotUptoRow.holds Try.pinned (OpenSpec.upto leafRotSpec)

/-- 'flagstonelaw07.LeafOwn', WHERE WHAT IT READS IS OF BULK AT MOST 1048576: true; the input reads as it did. -/
def leafOwnUptoRow : OpenClaim := { program := "ytcnofpoffdjbpaa", sum := "5d316775ac2e1f595c24d20b31161664272beedd4dc46f1a53aad39c373a5549", func := "flagstone/flagstonelaw07.LeafOwn", spec := "leafOwn", unfollowed := true, recurses := true, apart := false, narrowed := true }
def LeafOwnUptoSaid : Prop := leafOwnUptoRow.holds Try.pinned (OpenSpec.upto leafOwnSpec)

/-- 'flagstonelaw07.LeafShort', WHERE WHAT IT READS IS OF BULK AT MOST 1048576: true; the input reads as it did. -/
def leafShortUptoRow : OpenClaim := { program := "ytcnofpoffdjbpaa", sum := "5d316775ac2e1f595c24d20b31161664272beedd4dc46f1a53aad39c373a5549", func := "flagstone/flagstonelaw07.LeafShort", spec := "leafShort", unfollowed := true, recurses := true, apart := false, narrowed := true }
def LeafShortUptoSaid : Prop := leafShortUptoRow.holds Try.pinned (OpenSpec.upto leafShortSpec)

/-- 'flagstonelaw07.LeafTells', WHERE WHAT IT READS IS OF BULK AT MOST 1048576: true; the input reads as it did. -/
def leafTellsUptoRow : OpenClaim := { program := "ytcnofpoffdjbpaa", sum := "5d316775ac2e1f595c24d20b31161664272beedd4dc46f1a53aad39c373a5549", func := "flagstone/flagstonelaw07.LeafTells", spec := "leafTells", unfollowed := true, recurses := true, apart := false, narrowed := true }
def LeafTellsUptoSaid : Prop := leafTellsUptoRow.holds Try.pinned (OpenSpec.upto leafTellsSpec)

end Rows
end Go.Proofs.Ytcnofpoffdjbpaa
