/-
  DERIVED. GIVEN WITH THE SEED: THE CARDS: each row of YtebbipofemjnmaaDoorRows.lean that lists a variable, with what it lists TIED to the program's text (the seventh form; the later family's looks); each row that meets fmt, with fmt's text TOLD by the authors' own Lean function (tested against real Go, not proved from fmt's source: count such statements apart). THE CARD IS WHAT COUNTS. Prove the row's statement (the work); the ties are given (YtebbipofemjnmaaDoorTie.lean); close each card by the builder's one call (the guide's Derived/Test/ToyasCard.lean, 'card_holds'). Laid BY PROGRAM, IN A SANDBOX (cutbox-door.mjs). By AI agents, Wed Nov 11 2026. No macro, syntax, notation, axiom, sorry.
-/
import Derived.Test.YtebbipofemjnmaaDoorRows
import GoSem.ClaimSeven
namespace Go.Proofs.YtebbipofemjnmaaDoor
namespace Rows

/-- THE TIED CARD OF 'junctionlaw14.DriverPhases'. -/
def driverPhasesCard : Claim7 := { stood := { row := driverPhasesRow, standIns := [], harness := (true, "8a2be78f8e7a201b9ad947d7bfe8895da208b54914b61b44517d8445e2b97c41"), looks := false }, kinds := [], alts := [], laidByText := true, laidKinds := [.data], laidTests := true, laidLooks := .later }
def DriverPhasesCardSaid : Prop := Claim7.holds Tryd.pinned (.plain (OpenSpec.ofChange driverPhasesSpec)) driverPhasesCard

/-- THE TIED CARD OF 'junctionlaw14.DriverTraces'. -/
def driverTracesCard : Claim7 := { stood := { row := driverTracesRow, standIns := [], harness := (true, "8a2be78f8e7a201b9ad947d7bfe8895da208b54914b61b44517d8445e2b97c41"), looks := false }, kinds := [], alts := [], laidByText := true, laidKinds := [.data, .data, .data], laidTests := true, laidLooks := .later }
def DriverTracesCardSaid : Prop := Claim7.holds Tryd.pinned (.plain (OpenSpec.ofChange driverTracesSpec)) driverTracesCard

/-- THE TIED CARD OF 'junctionlaw14.DriverReports'. -/
def driverReportsCard : Claim7 := { stood := { row := driverReportsRow, standIns := [], harness := (true, "8a2be78f8e7a201b9ad947d7bfe8895da208b54914b61b44517d8445e2b97c41"), looks := false }, kinds := [], alts := [], laidByText := true, laidKinds := [.data, .data, .data, .data], laidTests := true, laidLooks := .later }
def DriverReportsCardSaid : Prop := Claim7.holds Tryd.pinned (.plain (OpenSpec.ofChange driverReportsSpec)) driverReportsCard

/-- THE TIED CARD OF 'junctionlaw14.DriverRetraces'. -/
def driverRetracesCard : Claim7 := { stood := { row := driverRetracesRow, standIns := [], harness := (true, "8a2be78f8e7a201b9ad947d7bfe8895da208b54914b61b44517d8445e2b97c41"), looks := false }, kinds := [], alts := [], laidByText := true, laidKinds := [.data, .data, .data], laidTests := true, laidLooks := .later }
def DriverRetracesCardSaid : Prop := Claim7.holds Tryd.pinned (.plain (OpenSpec.ofChange driverRetracesSpec)) driverRetracesCard

/-- THE TIED CARD OF 'junctionlaw14.DriverThere'. -/
def driverThereCard : Claim7 := { stood := { row := driverThereRow, standIns := [], harness := (true, "8a2be78f8e7a201b9ad947d7bfe8895da208b54914b61b44517d8445e2b97c41"), looks := false }, kinds := [], alts := [], laidByText := true, laidKinds := [.data, .data, .data], laidTests := true, laidLooks := .later }
def DriverThereCardSaid : Prop := Claim7.holds Tryd.pinned (.plain (OpenSpec.ofChange driverThereSpec)) driverThereCard

/-- THE TIED CARD OF 'junctionlaw14.DriverBack'. -/
def driverBackCard : Claim7 := { stood := { row := driverBackRow, standIns := [], harness := (true, "8a2be78f8e7a201b9ad947d7bfe8895da208b54914b61b44517d8445e2b97c41"), looks := false }, kinds := [], alts := [], laidByText := true, laidKinds := [.data, .data, .data], laidTests := true, laidLooks := .later }
def DriverBackCardSaid : Prop := Claim7.holds Tryd.pinned (.plain (OpenSpec.ofChange driverBackSpec)) driverBackCard

/-- THE SECOND FORM's CARD OF 'junctionlaw14.DriverPhases'. -/
def driverPhasesUptoCard : Claim7 := { stood := { row := driverPhasesUptoRow, standIns := [], harness := (true, "8a2be78f8e7a201b9ad947d7bfe8895da208b54914b61b44517d8445e2b97c41"), looks := false }, kinds := [], alts := [], laidByText := true, laidKinds := [.data], laidTests := true, laidLooks := .later }
def DriverPhasesUptoCardSaid : Prop := Claim7.holds Tryd.pinned (.plain (OpenSpec.upto driverPhasesSpec)) driverPhasesUptoCard

/-- THE SECOND FORM's CARD OF 'junctionlaw14.DriverTraces'. -/
def driverTracesUptoCard : Claim7 := { stood := { row := driverTracesUptoRow, standIns := [], harness := (true, "8a2be78f8e7a201b9ad947d7bfe8895da208b54914b61b44517d8445e2b97c41"), looks := false }, kinds := [], alts := [], laidByText := true, laidKinds := [.data, .data, .data], laidTests := true, laidLooks := .later }
def DriverTracesUptoCardSaid : Prop := Claim7.holds Tryd.pinned (.plain (OpenSpec.upto driverTracesSpec)) driverTracesUptoCard

/-- THE SECOND FORM's CARD OF 'junctionlaw14.DriverReports'. -/
def driverReportsUptoCard : Claim7 := { stood := { row := driverReportsUptoRow, standIns := [], harness := (true, "8a2be78f8e7a201b9ad947d7bfe8895da208b54914b61b44517d8445e2b97c41"), looks := false }, kinds := [], alts := [], laidByText := true, laidKinds := [.data, .data, .data, .data], laidTests := true, laidLooks := .later }
def DriverReportsUptoCardSaid : Prop := Claim7.holds Tryd.pinned (.plain (OpenSpec.upto driverReportsSpec)) driverReportsUptoCard

/-- THE SECOND FORM's CARD OF 'junctionlaw14.DriverRetraces'. -/
def driverRetracesUptoCard : Claim7 := { stood := { row := driverRetracesUptoRow, standIns := [], harness := (true, "8a2be78f8e7a201b9ad947d7bfe8895da208b54914b61b44517d8445e2b97c41"), looks := false }, kinds := [], alts := [], laidByText := true, laidKinds := [.data, .data, .data], laidTests := true, laidLooks := .later }
def DriverRetracesUptoCardSaid : Prop := Claim7.holds Tryd.pinned (.plain (OpenSpec.upto driverRetracesSpec)) driverRetracesUptoCard

/-- THE SECOND FORM's CARD OF 'junctionlaw14.DriverThere'. -/
def driverThereUptoCard : Claim7 := { stood := { row := driverThereUptoRow, standIns := [], harness := (true, "8a2be78f8e7a201b9ad947d7bfe8895da208b54914b61b44517d8445e2b97c41"), looks := false }, kinds := [], alts := [], laidByText := true, laidKinds := [.data, .data, .data], laidTests := true, laidLooks := .later }
def DriverThereUptoCardSaid : Prop := Claim7.holds Tryd.pinned (.plain (OpenSpec.upto driverThereSpec)) driverThereUptoCard

/-- THE SECOND FORM's CARD OF 'junctionlaw14.DriverBack'. -/
def driverBackUptoCard : Claim7 := { stood := { row := driverBackUptoRow, standIns := [], harness := (true, "8a2be78f8e7a201b9ad947d7bfe8895da208b54914b61b44517d8445e2b97c41"), looks := false }, kinds := [], alts := [], laidByText := true, laidKinds := [.data, .data, .data], laidTests := true, laidLooks := .later }
def DriverBackUptoCardSaid : Prop := Claim7.holds Tryd.pinned (.plain (OpenSpec.upto driverBackSpec)) driverBackUptoCard
end Rows
end Go.Proofs.YtebbipofemjnmaaDoor
