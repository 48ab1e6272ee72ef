/-
  DERIVED. GIVEN WITH THE SEED: THE CARDS: each row of YtnlanfcboiemaaaDoorRows.lean that lists a variable, with what it lists TIED to the program's text (the seventh form; the later family's looks); each row that meets fmt, with fmt's text TOLD by the authors' own Lean function (tested against real Go, not proved from fmt's source: count such statements apart). THE CARD IS WHAT COUNTS. Prove the row's statement (the work); the ties are given (YtnlanfcboiemaaaDoorTie.lean); close each card by the builder's one call (the guide's Derived/Test/ToyasCard.lean, 'card_holds'). Laid BY PROGRAM, IN A SANDBOX (cutbox-door.mjs). By AI agents, Wed Nov 11 2026. No macro, syntax, notation, axiom, sorry.
-/
import Derived.Test.YtnlanfcboiemaaaDoorRows
import GoSem.ClaimSeven
namespace Go.Proofs.YtnlanfcboiemaaaDoor
namespace Rows

/-- THE TIED CARD OF 'flagstonelaw04.SuperPlaces'. -/
def superPlacesCard : Claim7 := { stood := { row := superPlacesRow, standIns := [], harness := (true, "dcec299723e9855d402146936569555a753226f5462df4baa03dd32fb0a575f7"), looks := false }, kinds := [], alts := [], laidByText := true, laidKinds := [.data, .pinned], laidTests := true, laidLooks := .later }
def SuperPlacesCardSaid : Prop := Claim7.holds Tryd.pinned (.plain (OpenSpec.ofChange superPlacesSpec)) superPlacesCard

/-- THE TIED CARD OF 'flagstonelaw04.SuperBack'. -/
def superBackCard : Claim7 := { stood := { row := superBackRow, standIns := [], harness := (true, "dcec299723e9855d402146936569555a753226f5462df4baa03dd32fb0a575f7"), looks := false }, kinds := [], alts := [], laidByText := true, laidKinds := [.data, .pinned], laidTests := true, laidLooks := .later }
def SuperBackCardSaid : Prop := Claim7.holds Tryd.pinned (.plain (OpenSpec.ofChange superBackSpec)) superBackCard

/-- THE TIED CARD OF 'flagstonelaw04.SuperApart'. -/
def superApartCard : Claim7 := { stood := { row := superApartRow, standIns := [], harness := (true, "dcec299723e9855d402146936569555a753226f5462df4baa03dd32fb0a575f7"), looks := false }, kinds := [], alts := [], laidByText := true, laidKinds := [.data, .pinned], laidTests := true, laidLooks := .later }
def SuperApartCardSaid : Prop := Claim7.holds Tryd.pinned (.plain (OpenSpec.ofChange superApartSpec)) superApartCard

/-- THE TIED CARD OF 'flagstonelaw04.SuperRot'. -/
def superRotCard : Claim7 := { stood := { row := superRotRow, standIns := [], harness := (true, "dcec299723e9855d402146936569555a753226f5462df4baa03dd32fb0a575f7"), looks := false }, kinds := [], alts := [], laidByText := true, laidKinds := [.data, .pinned], laidTests := true, laidLooks := .later }
def SuperRotCardSaid : Prop := Claim7.holds Tryd.pinned (.plain (OpenSpec.ofChange superRotSpec)) superRotCard

/-- THE TIED CARD OF 'flagstonelaw04.SuperTells'. -/
def superTellsCard : Claim7 := { stood := { row := superTellsRow, standIns := [], harness := (true, "dcec299723e9855d402146936569555a753226f5462df4baa03dd32fb0a575f7"), looks := false }, kinds := [], alts := [], laidByText := true, laidKinds := [.data, .pinned], laidTests := true, laidLooks := .later }
def SuperTellsCardSaid : Prop := Claim7.holds Tryd.pinned (.plain (OpenSpec.ofChange superTellsSpec)) superTellsCard

/-- THE TIED CARD OF 'flagstonelaw04.SuperNewer'. -/
def superNewerCard : Claim7 := { stood := { row := superNewerRow, standIns := [], harness := (true, "dcec299723e9855d402146936569555a753226f5462df4baa03dd32fb0a575f7"), looks := false }, kinds := [], alts := [], laidByText := true, laidKinds := [.data, .pinned], laidTests := true, laidLooks := .later }
def SuperNewerCardSaid : Prop := Claim7.holds Tryd.pinned (.plain (OpenSpec.ofChange superNewerSpec)) superNewerCard

/-- THE TIED CARD OF 'flagstonelaw04.SuperShort'. -/
def superShortCard : Claim7 := { stood := { row := superShortRow, standIns := [], harness := (true, "dcec299723e9855d402146936569555a753226f5462df4baa03dd32fb0a575f7"), looks := false }, kinds := [], alts := [], laidByText := true, laidKinds := [.data, .pinned], laidTests := true, laidLooks := .later }
def SuperShortCardSaid : Prop := Claim7.holds Tryd.pinned (.plain (OpenSpec.ofChange superShortSpec)) superShortCard

/-- THE SECOND FORM's CARD OF 'flagstonelaw04.SuperPlaces'. -/
def superPlacesUptoCard : Claim7 := { stood := { row := superPlacesUptoRow, standIns := [], harness := (true, "dcec299723e9855d402146936569555a753226f5462df4baa03dd32fb0a575f7"), looks := false }, kinds := [], alts := [], laidByText := true, laidKinds := [.data, .pinned], laidTests := true, laidLooks := .later }
def SuperPlacesUptoCardSaid : Prop := Claim7.holds Tryd.pinned (.plain (OpenSpec.upto superPlacesSpec)) superPlacesUptoCard

/-- THE SECOND FORM's CARD OF 'flagstonelaw04.SuperBack'. -/
def superBackUptoCard : Claim7 := { stood := { row := superBackUptoRow, standIns := [], harness := (true, "dcec299723e9855d402146936569555a753226f5462df4baa03dd32fb0a575f7"), looks := false }, kinds := [], alts := [], laidByText := true, laidKinds := [.data, .pinned], laidTests := true, laidLooks := .later }
def SuperBackUptoCardSaid : Prop := Claim7.holds Tryd.pinned (.plain (OpenSpec.upto superBackSpec)) superBackUptoCard

/-- THE SECOND FORM's CARD OF 'flagstonelaw04.SuperApart'. -/
def superApartUptoCard : Claim7 := { stood := { row := superApartUptoRow, standIns := [], harness := (true, "dcec299723e9855d402146936569555a753226f5462df4baa03dd32fb0a575f7"), looks := false }, kinds := [], alts := [], laidByText := true, laidKinds := [.data, .pinned], laidTests := true, laidLooks := .later }
def SuperApartUptoCardSaid : Prop := Claim7.holds Tryd.pinned (.plain (OpenSpec.upto superApartSpec)) superApartUptoCard

/-- THE SECOND FORM's CARD OF 'flagstonelaw04.SuperRot'. -/
def superRotUptoCard : Claim7 := { stood := { row := superRotUptoRow, standIns := [], harness := (true, "dcec299723e9855d402146936569555a753226f5462df4baa03dd32fb0a575f7"), looks := false }, kinds := [], alts := [], laidByText := true, laidKinds := [.data, .pinned], laidTests := true, laidLooks := .later }
def SuperRotUptoCardSaid : Prop := Claim7.holds Tryd.pinned (.plain (OpenSpec.upto superRotSpec)) superRotUptoCard

/-- THE SECOND FORM's CARD OF 'flagstonelaw04.SuperTells'. -/
def superTellsUptoCard : Claim7 := { stood := { row := superTellsUptoRow, standIns := [], harness := (true, "dcec299723e9855d402146936569555a753226f5462df4baa03dd32fb0a575f7"), looks := false }, kinds := [], alts := [], laidByText := true, laidKinds := [.data, .pinned], laidTests := true, laidLooks := .later }
def SuperTellsUptoCardSaid : Prop := Claim7.holds Tryd.pinned (.plain (OpenSpec.upto superTellsSpec)) superTellsUptoCard

/-- THE SECOND FORM's CARD OF 'flagstonelaw04.SuperNewer'. -/
def superNewerUptoCard : Claim7 := { stood := { row := superNewerUptoRow, standIns := [], harness := (true, "dcec299723e9855d402146936569555a753226f5462df4baa03dd32fb0a575f7"), looks := false }, kinds := [], alts := [], laidByText := true, laidKinds := [.data, .pinned], laidTests := true, laidLooks := .later }
def SuperNewerUptoCardSaid : Prop := Claim7.holds Tryd.pinned (.plain (OpenSpec.upto superNewerSpec)) superNewerUptoCard

/-- THE SECOND FORM's CARD OF 'flagstonelaw04.SuperShort'. -/
def superShortUptoCard : Claim7 := { stood := { row := superShortUptoRow, standIns := [], harness := (true, "dcec299723e9855d402146936569555a753226f5462df4baa03dd32fb0a575f7"), looks := false }, kinds := [], alts := [], laidByText := true, laidKinds := [.data, .pinned], laidTests := true, laidLooks := .later }
def SuperShortUptoCardSaid : Prop := Claim7.holds Tryd.pinned (.plain (OpenSpec.upto superShortSpec)) superShortUptoCard
end Rows
end Go.Proofs.YtnlanfcboiemaaaDoor
