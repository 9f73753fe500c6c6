/-
  DERIVED. GIVEN WITH THE SEED: THE CARDS: each row of YtpcmnphohneddaaGreatDoorRows.lean that lists a variable, with what it lists TIED to the program's text (the seventh form; the later family's looks); each row that meets fmt, with fmt's text TOLD by the authors' own Lean function (tested against real Go, not proved from fmt's source: count such statements apart). THE CARD IS WHAT COUNTS. Prove the row's statement (the work); the ties are given (YtpcmnphohneddaaGreatDoorTie.lean); close each card by the builder's one call (the guide's Derived/Test/ToyasCard.lean, 'card_holds'). Laid BY PROGRAM, IN A SANDBOX (cutbox-door.mjs). By AI agents, Wed Nov 11 2026. No macro, syntax, notation, axiom, sorry.
-/
import Derived.Test.YtpcmnphohneddaaGreatDoorRows
import GoSem.ClaimSeven
namespace Go.Proofs.YtpcmnphohneddaaGreatDoor
namespace Rows

/-- THE TIED CARD OF 'citadellaw20.VmSteps'. -/
def vmStepsCard : Claim7 := { stood := { row := vmStepsRow, standIns := [], harness := (true, "ea8af347a5a1016ee343ae375669a88097781482766b52db2b7f07cf3effe225"), looks := true }, kinds := [], alts := [], laidByText := true, laidKinds := [.data, .data, .data, .data, .sentinel, .sentinel, .pinned], laidTests := true, laidLooks := .later }
def VmStepsCardSaid : Prop := Claim7.holds Tryz.pinned (.plain (OpenSpec.ofChange vmStepsSpec)) vmStepsCard

/-- THE TIED CARD OF 'citadellaw20.VmLocal'. -/
def vmLocalCard : Claim7 := { stood := { row := vmLocalRow, standIns := [], harness := (true, "ea8af347a5a1016ee343ae375669a88097781482766b52db2b7f07cf3effe225"), looks := true }, kinds := [], alts := [], laidByText := true, laidKinds := [.data, .data, .data, .data, .sentinel, .sentinel, .pinned], laidTests := true, laidLooks := .later }
def VmLocalCardSaid : Prop := Claim7.holds Tryz.pinned (.plain (OpenSpec.ofChange vmLocalSpec)) vmLocalCard

/-- THE TIED CARD OF 'citadellaw20.VmBlind'. -/
def vmBlindCard : Claim7 := { stood := { row := vmBlindRow, standIns := [], harness := (true, "ea8af347a5a1016ee343ae375669a88097781482766b52db2b7f07cf3effe225"), looks := true }, kinds := [], alts := [], laidByText := true, laidKinds := [.data, .data, .data, .data, .sentinel, .sentinel, .pinned], laidTests := true, laidLooks := .later }
def VmBlindCardSaid : Prop := Claim7.holds Tryz.pinned (.plain (OpenSpec.ofChange vmBlindSpec)) vmBlindCard

/-- THE TIED CARD OF 'citadellaw20.VmRuns'. -/
def vmRunsCard : Claim7 := { stood := { row := vmRunsRow, standIns := [], harness := (true, "ea8af347a5a1016ee343ae375669a88097781482766b52db2b7f07cf3effe225"), looks := true }, kinds := [], alts := [], laidByText := true, laidKinds := [.data, .data, .data, .data, .sentinel, .sentinel, .pinned], laidTests := true, laidLooks := .later }
def VmRunsCardSaid : Prop := Claim7.holds Tryz.pinned (.plain (OpenSpec.ofChange vmRunsSpec)) vmRunsCard

/-- THE TIED CARD OF 'citadellaw20.VmPieces'. -/
def vmPiecesCard : Claim7 := { stood := { row := vmPiecesRow, standIns := [], harness := (true, "ea8af347a5a1016ee343ae375669a88097781482766b52db2b7f07cf3effe225"), looks := true }, kinds := [], alts := [], laidByText := true, laidKinds := [.data, .data, .data, .data, .sentinel, .sentinel, .pinned], laidTests := true, laidLooks := .later }
def VmPiecesCardSaid : Prop := Claim7.holds Tryz.pinned (.plain (OpenSpec.ofChange vmPiecesSpec)) vmPiecesCard

/-- THE SECOND FORM's CARD OF 'citadellaw20.VmSteps'. -/
def vmStepsUptoCard : Claim7 := { stood := { row := vmStepsUptoRow, standIns := [], harness := (true, "ea8af347a5a1016ee343ae375669a88097781482766b52db2b7f07cf3effe225"), looks := true }, kinds := [], alts := [], laidByText := true, laidKinds := [.data, .data, .data, .data, .sentinel, .sentinel, .pinned], laidTests := true, laidLooks := .later }
def VmStepsUptoCardSaid : Prop := Claim7.holds Tryz.pinned (.plain (OpenSpec.upto vmStepsSpec)) vmStepsUptoCard

/-- THE SECOND FORM's CARD OF 'citadellaw20.VmLocal'. -/
def vmLocalUptoCard : Claim7 := { stood := { row := vmLocalUptoRow, standIns := [], harness := (true, "ea8af347a5a1016ee343ae375669a88097781482766b52db2b7f07cf3effe225"), looks := true }, kinds := [], alts := [], laidByText := true, laidKinds := [.data, .data, .data, .data, .sentinel, .sentinel, .pinned], laidTests := true, laidLooks := .later }
def VmLocalUptoCardSaid : Prop := Claim7.holds Tryz.pinned (.plain (OpenSpec.upto vmLocalSpec)) vmLocalUptoCard

/-- THE SECOND FORM's CARD OF 'citadellaw20.VmBlind'. -/
def vmBlindUptoCard : Claim7 := { stood := { row := vmBlindUptoRow, standIns := [], harness := (true, "ea8af347a5a1016ee343ae375669a88097781482766b52db2b7f07cf3effe225"), looks := true }, kinds := [], alts := [], laidByText := true, laidKinds := [.data, .data, .data, .data, .sentinel, .sentinel, .pinned], laidTests := true, laidLooks := .later }
def VmBlindUptoCardSaid : Prop := Claim7.holds Tryz.pinned (.plain (OpenSpec.upto vmBlindSpec)) vmBlindUptoCard

/-- THE SECOND FORM's CARD OF 'citadellaw20.VmRuns'. -/
def vmRunsUptoCard : Claim7 := { stood := { row := vmRunsUptoRow, standIns := [], harness := (true, "ea8af347a5a1016ee343ae375669a88097781482766b52db2b7f07cf3effe225"), looks := true }, kinds := [], alts := [], laidByText := true, laidKinds := [.data, .data, .data, .data, .sentinel, .sentinel, .pinned], laidTests := true, laidLooks := .later }
def VmRunsUptoCardSaid : Prop := Claim7.holds Tryz.pinned (.plain (OpenSpec.upto vmRunsSpec)) vmRunsUptoCard

/-- THE SECOND FORM's CARD OF 'citadellaw20.VmPieces'. -/
def vmPiecesUptoCard : Claim7 := { stood := { row := vmPiecesUptoRow, standIns := [], harness := (true, "ea8af347a5a1016ee343ae375669a88097781482766b52db2b7f07cf3effe225"), looks := true }, kinds := [], alts := [], laidByText := true, laidKinds := [.data, .data, .data, .data, .sentinel, .sentinel, .pinned], laidTests := true, laidLooks := .later }
def VmPiecesUptoCardSaid : Prop := Claim7.holds Tryz.pinned (.plain (OpenSpec.upto vmPiecesSpec)) vmPiecesUptoCard
end Rows
end Go.Proofs.YtpcmnphohneddaaGreatDoor
