/-
  DERIVED. GIVEN WITH THE SEED: THE CARDS: each row of YtkeajohkpmabcaaGreatDoorRows.lean that lists a variable, with what it lists TIED to the program's text (the seventh form; the later family's looks); each row that meets fmt, with fmt's text TOLD by the authors' own Lean function (tested against real Go, not proved from fmt's source: count such statements apart). THE CARD IS WHAT COUNTS. Prove the row's statement (the work); the ties are given (YtkeajohkpmabcaaGreatDoorTie.lean); close each card by the builder's one call (the guide's Derived/Test/ToyasCard.lean, 'card_holds'). Laid BY PROGRAM, IN A SANDBOX (cutbox-door.mjs). By AI agents, Wed Nov 11 2026. No macro, syntax, notation, axiom, sorry.
-/
import Derived.Test.YtkeajohkpmabcaaGreatDoorRows
import GoSem.ClaimSeven
namespace Go.Proofs.YtkeajohkpmabcaaGreatDoor
namespace Rows

/-- THE TIED CARD OF 'tonneaulaw04.BigTells'. -/
def bigTellsCard : Claim7 := { stood := { row := bigTellsRow, standIns := [], harness := (true, "f2e6b521a010c1ddc9fc3c8633a00d0e160a985ff9e7bcfb4b8aa02b0040a73e"), looks := false }, kinds := [], alts := [], laidByText := true, laidKinds := [.data, .data, .data, .data, .pinned], laidTests := true, laidLooks := .later }
def BigTellsCardSaid : Prop := Claim7.holds Tryz.pinned (.plain (OpenSpec.ofChange bigTellsSpec)) bigTellsCard

/-- THE TIED CARD OF 'tonneaulaw05.FracTells'. -/
def fracTellsCard : Claim7 := { stood := { row := fracTellsRow, standIns := [], harness := (true, "f2e6b521a010c1ddc9fc3c8633a00d0e160a985ff9e7bcfb4b8aa02b0040a73e"), looks := false }, kinds := [], alts := [], laidByText := true, laidKinds := [.data, .data, .data, .data, .pinned], laidTests := true, laidLooks := .later }
def FracTellsCardSaid : Prop := Claim7.holds Tryz.pinned (.plain (OpenSpec.ofChange fracTellsSpec)) fracTellsCard

/-- THE TIED CARD OF 'tonneaulaw05.FracField'. -/
def fracFieldCard : Claim7 := { stood := { row := fracFieldRow, standIns := [], harness := (true, "f2e6b521a010c1ddc9fc3c8633a00d0e160a985ff9e7bcfb4b8aa02b0040a73e"), looks := false }, kinds := [], alts := [], laidByText := true, laidKinds := [.data, .data, .data, .data, .pinned], laidTests := true, laidLooks := .later }
def FracFieldCardSaid : Prop := Claim7.holds Tryz.pinned (.plain (OpenSpec.ofChange fracFieldSpec)) fracFieldCard

/-- THE TIED CARD OF 'tonneaulaw05.FracOrder'. -/
def fracOrderCard : Claim7 := { stood := { row := fracOrderRow, standIns := [], harness := (true, "f2e6b521a010c1ddc9fc3c8633a00d0e160a985ff9e7bcfb4b8aa02b0040a73e"), looks := false }, kinds := [], alts := [], laidByText := true, laidKinds := [.data, .data, .data, .data, .pinned], laidTests := true, laidLooks := .later }
def FracOrderCardSaid : Prop := Claim7.holds Tryz.pinned (.plain (OpenSpec.ofChange fracOrderSpec)) fracOrderCard

/-- THE TIED CARD OF 'tonneaulaw05.FracBack'. -/
def fracBackCard : Claim7 := { stood := { row := fracBackRow, standIns := [], harness := (true, "f2e6b521a010c1ddc9fc3c8633a00d0e160a985ff9e7bcfb4b8aa02b0040a73e"), looks := false }, kinds := [], alts := [], laidByText := true, laidKinds := [.data, .data, .data, .data, .pinned], laidTests := true, laidLooks := .later }
def FracBackCardSaid : Prop := Claim7.holds Tryz.pinned (.plain (OpenSpec.ofChange fracBackSpec)) fracBackCard

/-- THE TIED CARD OF 'tonneaulaw05.FracFloor'. -/
def fracFloorCard : Claim7 := { stood := { row := fracFloorRow, standIns := [], harness := (true, "f2e6b521a010c1ddc9fc3c8633a00d0e160a985ff9e7bcfb4b8aa02b0040a73e"), looks := false }, kinds := [], alts := [], laidByText := true, laidKinds := [.data, .data, .data, .data, .pinned], laidTests := true, laidLooks := .later }
def FracFloorCardSaid : Prop := Claim7.holds Tryz.pinned (.plain (OpenSpec.ofChange fracFloorSpec)) fracFloorCard

/-- THE SECOND FORM's CARD OF 'tonneaulaw04.BigTells'. -/
def bigTellsUptoCard : Claim7 := { stood := { row := bigTellsUptoRow, standIns := [], harness := (true, "f2e6b521a010c1ddc9fc3c8633a00d0e160a985ff9e7bcfb4b8aa02b0040a73e"), looks := false }, kinds := [], alts := [], laidByText := true, laidKinds := [.data, .data, .data, .data, .pinned], laidTests := true, laidLooks := .later }
def BigTellsUptoCardSaid : Prop := Claim7.holds Tryz.pinned (.plain (OpenSpec.upto bigTellsSpec)) bigTellsUptoCard

/-- THE SECOND FORM's CARD OF 'tonneaulaw05.FracTells'. -/
def fracTellsUptoCard : Claim7 := { stood := { row := fracTellsUptoRow, standIns := [], harness := (true, "f2e6b521a010c1ddc9fc3c8633a00d0e160a985ff9e7bcfb4b8aa02b0040a73e"), looks := false }, kinds := [], alts := [], laidByText := true, laidKinds := [.data, .data, .data, .data, .pinned], laidTests := true, laidLooks := .later }
def FracTellsUptoCardSaid : Prop := Claim7.holds Tryz.pinned (.plain (OpenSpec.upto fracTellsSpec)) fracTellsUptoCard

/-- THE SECOND FORM's CARD OF 'tonneaulaw05.FracField'. -/
def fracFieldUptoCard : Claim7 := { stood := { row := fracFieldUptoRow, standIns := [], harness := (true, "f2e6b521a010c1ddc9fc3c8633a00d0e160a985ff9e7bcfb4b8aa02b0040a73e"), looks := false }, kinds := [], alts := [], laidByText := true, laidKinds := [.data, .data, .data, .data, .pinned], laidTests := true, laidLooks := .later }
def FracFieldUptoCardSaid : Prop := Claim7.holds Tryz.pinned (.plain (OpenSpec.upto fracFieldSpec)) fracFieldUptoCard

/-- THE SECOND FORM's CARD OF 'tonneaulaw05.FracOrder'. -/
def fracOrderUptoCard : Claim7 := { stood := { row := fracOrderUptoRow, standIns := [], harness := (true, "f2e6b521a010c1ddc9fc3c8633a00d0e160a985ff9e7bcfb4b8aa02b0040a73e"), looks := false }, kinds := [], alts := [], laidByText := true, laidKinds := [.data, .data, .data, .data, .pinned], laidTests := true, laidLooks := .later }
def FracOrderUptoCardSaid : Prop := Claim7.holds Tryz.pinned (.plain (OpenSpec.upto fracOrderSpec)) fracOrderUptoCard

/-- THE SECOND FORM's CARD OF 'tonneaulaw05.FracBack'. -/
def fracBackUptoCard : Claim7 := { stood := { row := fracBackUptoRow, standIns := [], harness := (true, "f2e6b521a010c1ddc9fc3c8633a00d0e160a985ff9e7bcfb4b8aa02b0040a73e"), looks := false }, kinds := [], alts := [], laidByText := true, laidKinds := [.data, .data, .data, .data, .pinned], laidTests := true, laidLooks := .later }
def FracBackUptoCardSaid : Prop := Claim7.holds Tryz.pinned (.plain (OpenSpec.upto fracBackSpec)) fracBackUptoCard

/-- THE SECOND FORM's CARD OF 'tonneaulaw05.FracFloor'. -/
def fracFloorUptoCard : Claim7 := { stood := { row := fracFloorUptoRow, standIns := [], harness := (true, "f2e6b521a010c1ddc9fc3c8633a00d0e160a985ff9e7bcfb4b8aa02b0040a73e"), looks := false }, kinds := [], alts := [], laidByText := true, laidKinds := [.data, .data, .data, .data, .pinned], laidTests := true, laidLooks := .later }
def FracFloorUptoCardSaid : Prop := Claim7.holds Tryz.pinned (.plain (OpenSpec.upto fracFloorSpec)) fracFloorUptoCard
end Rows
end Go.Proofs.YtkeajohkpmabcaaGreatDoor
