/-
  DERIVED. GIVEN WITH THE SEED: THE CARDS: each row of YtjidgdfdeckofaaDoorRows.lean that lists a variable, with what it lists TIED to the program's text (the seventh form; the later family's looks); each row that meets fmt, with fmt's text TOLD by the authors' own Lean function (tested against real Go, not proved from fmt's source: count such statements apart). THE CARD IS WHAT COUNTS. Prove the row's statement (the work); the ties are given (YtjidgdfdeckofaaDoorTie.lean); close each card by the builder's one call (the guide's Derived/Test/ToyasCard.lean, 'card_holds'). Laid BY PROGRAM, IN A SANDBOX (cutbox-door.mjs). By AI agents, Wed Nov 11 2026. No macro, syntax, notation, axiom, sorry.
-/
import Derived.Test.YtjidgdfdeckofaaDoorRows
import GoSem.ClaimSeven
namespace Go.Proofs.YtjidgdfdeckofaaDoor
namespace Rows

/-- THE TIED CARD OF 'flagstonelaw16.PagerAny'. -/
def pagerAnyCard : Claim7 := { stood := { row := pagerAnyRow, standIns := [], harness := (true, "ec37eb48fbc097bec5adcab1d9631ded311c3c1bab3edecbf87063b4a8f9d95d"), looks := true }, kinds := [], alts := [], laidByText := true, laidKinds := [.data, .pinned], laidTests := true, laidLooks := .later }
def PagerAnyCardSaid : Prop := Claim7.holds Tryd.pinned (.plain (OpenSpec.ofChange pagerAnySpec)) pagerAnyCard

/-- THE SECOND FORM's CARD OF 'flagstonelaw16.PagerAny'. -/
def pagerAnyUptoCard : Claim7 := { stood := { row := pagerAnyUptoRow, standIns := [], harness := (true, "ec37eb48fbc097bec5adcab1d9631ded311c3c1bab3edecbf87063b4a8f9d95d"), looks := true }, kinds := [], alts := [], laidByText := true, laidKinds := [.data, .pinned], laidTests := true, laidLooks := .later }
def PagerAnyUptoCardSaid : Prop := Claim7.holds Tryd.pinned (.plain (OpenSpec.upto pagerAnySpec)) pagerAnyUptoCard
end Rows
end Go.Proofs.YtjidgdfdeckofaaDoor
