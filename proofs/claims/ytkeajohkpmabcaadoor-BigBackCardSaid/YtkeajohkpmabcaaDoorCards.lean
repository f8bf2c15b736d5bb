/-
  DERIVED. GIVEN WITH THE SEED: THE CARDS: each row of YtkeajohkpmabcaaDoorRows.lean that lists a variable, with what it lists TIED to the program's text (the seventh form; the later family's looks); each row that meets fmt, with fmt's text TOLD by the authors' own Lean function (tested against real Go, not proved from fmt's source: count such statements apart). THE CARD IS WHAT COUNTS. Prove the row's statement (the work); the ties are given (YtkeajohkpmabcaaDoorTie.lean); close each card by the builder's one call (the guide's Derived/Test/ToyasCard.lean, 'card_holds'). Laid BY PROGRAM, IN A SANDBOX (cutbox-door.mjs). By AI agents, Wed Nov 11 2026. No macro, syntax, notation, axiom, sorry.
-/
import Derived.Test.YtkeajohkpmabcaaDoorRows
import GoSem.ClaimSeven
namespace Go.Proofs.YtkeajohkpmabcaaDoor
namespace Rows

/-- THE TIED CARD OF 'tonneaulaw04.BigGcd'. -/
def bigGcdCard : Claim7 := { stood := { row := bigGcdRow, standIns := [], harness := (true, "24fc7ebac0399bfecf721ae8e38615f7569800a57a3571ac8318a9b790c3a5ed"), looks := false }, kinds := [], alts := [], laidByText := true, laidKinds := [.data, .data, .data, .data, .pinned], laidTests := true, laidLooks := .later }
def BigGcdCardSaid : Prop := Claim7.holds Tryd.pinned (.plain (OpenSpec.ofChange bigGcdSpec)) bigGcdCard

/-- THE TIED CARD OF 'tonneaulaw04.BigBack'. -/
def bigBackCard : Claim7 := { stood := { row := bigBackRow, standIns := [], harness := (true, "24fc7ebac0399bfecf721ae8e38615f7569800a57a3571ac8318a9b790c3a5ed"), looks := false }, kinds := [], alts := [], laidByText := true, laidKinds := [.data, .data, .data, .data, .pinned], laidTests := true, laidLooks := .later }
def BigBackCardSaid : Prop := Claim7.holds Tryd.pinned (.plain (OpenSpec.ofChange bigBackSpec)) bigBackCard

/-- THE TIED CARD OF 'tonneaulaw04.BigRing'. -/
def bigRingCard : Claim7 := { stood := { row := bigRingRow, standIns := [], harness := (true, "24fc7ebac0399bfecf721ae8e38615f7569800a57a3571ac8318a9b790c3a5ed"), looks := false }, kinds := [], alts := [], laidByText := true, laidKinds := [.data, .data, .data, .data, .pinned], laidTests := true, laidLooks := .later }
def BigRingCardSaid : Prop := Claim7.holds Tryd.pinned (.plain (OpenSpec.ofChange bigRingSpec)) bigRingCard

/-- THE TIED CARD OF 'tonneaulaw04.BigDivides'. -/
def bigDividesCard : Claim7 := { stood := { row := bigDividesRow, standIns := [], harness := (true, "24fc7ebac0399bfecf721ae8e38615f7569800a57a3571ac8318a9b790c3a5ed"), looks := false }, kinds := [], alts := [], laidByText := true, laidKinds := [.data, .data, .data, .data, .pinned], laidTests := true, laidLooks := .later }
def BigDividesCardSaid : Prop := Claim7.holds Tryd.pinned (.plain (OpenSpec.ofChange bigDividesSpec)) bigDividesCard

/-- THE TIED CARD OF 'tonneaulaw04.BigOrder'. -/
def bigOrderCard : Claim7 := { stood := { row := bigOrderRow, standIns := [], harness := (true, "24fc7ebac0399bfecf721ae8e38615f7569800a57a3571ac8318a9b790c3a5ed"), looks := false }, kinds := [], alts := [], laidByText := true, laidKinds := [.data, .data, .data, .data, .pinned], laidTests := true, laidLooks := .later }
def BigOrderCardSaid : Prop := Claim7.holds Tryd.pinned (.plain (OpenSpec.ofChange bigOrderSpec)) bigOrderCard

/-- THE TIED CARD OF 'tonneaulaw04.BigInts'. -/
def bigIntsCard : Claim7 := { stood := { row := bigIntsRow, standIns := [], harness := (true, "24fc7ebac0399bfecf721ae8e38615f7569800a57a3571ac8318a9b790c3a5ed"), looks := false }, kinds := [], alts := [], laidByText := true, laidKinds := [.data, .data, .data, .data, .pinned], laidTests := true, laidLooks := .later }
def BigIntsCardSaid : Prop := Claim7.holds Tryd.pinned (.plain (OpenSpec.ofChange bigIntsSpec)) bigIntsCard

/-- THE SECOND FORM's CARD OF 'tonneaulaw04.BigGcd'. -/
def bigGcdUptoCard : Claim7 := { stood := { row := bigGcdUptoRow, standIns := [], harness := (true, "24fc7ebac0399bfecf721ae8e38615f7569800a57a3571ac8318a9b790c3a5ed"), looks := false }, kinds := [], alts := [], laidByText := true, laidKinds := [.data, .data, .data, .data, .pinned], laidTests := true, laidLooks := .later }
def BigGcdUptoCardSaid : Prop := Claim7.holds Tryd.pinned (.plain (OpenSpec.upto bigGcdSpec)) bigGcdUptoCard

/-- THE SECOND FORM's CARD OF 'tonneaulaw04.BigBack'. -/
def bigBackUptoCard : Claim7 := { stood := { row := bigBackUptoRow, standIns := [], harness := (true, "24fc7ebac0399bfecf721ae8e38615f7569800a57a3571ac8318a9b790c3a5ed"), looks := false }, kinds := [], alts := [], laidByText := true, laidKinds := [.data, .data, .data, .data, .pinned], laidTests := true, laidLooks := .later }
def BigBackUptoCardSaid : Prop := Claim7.holds Tryd.pinned (.plain (OpenSpec.upto bigBackSpec)) bigBackUptoCard

/-- THE SECOND FORM's CARD OF 'tonneaulaw04.BigRing'. -/
def bigRingUptoCard : Claim7 := { stood := { row := bigRingUptoRow, standIns := [], harness := (true, "24fc7ebac0399bfecf721ae8e38615f7569800a57a3571ac8318a9b790c3a5ed"), looks := false }, kinds := [], alts := [], laidByText := true, laidKinds := [.data, .data, .data, .data, .pinned], laidTests := true, laidLooks := .later }
def BigRingUptoCardSaid : Prop := Claim7.holds Tryd.pinned (.plain (OpenSpec.upto bigRingSpec)) bigRingUptoCard

/-- THE SECOND FORM's CARD OF 'tonneaulaw04.BigDivides'. -/
def bigDividesUptoCard : Claim7 := { stood := { row := bigDividesUptoRow, standIns := [], harness := (true, "24fc7ebac0399bfecf721ae8e38615f7569800a57a3571ac8318a9b790c3a5ed"), looks := false }, kinds := [], alts := [], laidByText := true, laidKinds := [.data, .data, .data, .data, .pinned], laidTests := true, laidLooks := .later }
def BigDividesUptoCardSaid : Prop := Claim7.holds Tryd.pinned (.plain (OpenSpec.upto bigDividesSpec)) bigDividesUptoCard

/-- THE SECOND FORM's CARD OF 'tonneaulaw04.BigOrder'. -/
def bigOrderUptoCard : Claim7 := { stood := { row := bigOrderUptoRow, standIns := [], harness := (true, "24fc7ebac0399bfecf721ae8e38615f7569800a57a3571ac8318a9b790c3a5ed"), looks := false }, kinds := [], alts := [], laidByText := true, laidKinds := [.data, .data, .data, .data, .pinned], laidTests := true, laidLooks := .later }
def BigOrderUptoCardSaid : Prop := Claim7.holds Tryd.pinned (.plain (OpenSpec.upto bigOrderSpec)) bigOrderUptoCard

/-- THE SECOND FORM's CARD OF 'tonneaulaw04.BigInts'. -/
def bigIntsUptoCard : Claim7 := { stood := { row := bigIntsUptoRow, standIns := [], harness := (true, "24fc7ebac0399bfecf721ae8e38615f7569800a57a3571ac8318a9b790c3a5ed"), looks := false }, kinds := [], alts := [], laidByText := true, laidKinds := [.data, .data, .data, .data, .pinned], laidTests := true, laidLooks := .later }
def BigIntsUptoCardSaid : Prop := Claim7.holds Tryd.pinned (.plain (OpenSpec.upto bigIntsSpec)) bigIntsUptoCard
end Rows
end Go.Proofs.YtkeajohkpmabcaaDoor
