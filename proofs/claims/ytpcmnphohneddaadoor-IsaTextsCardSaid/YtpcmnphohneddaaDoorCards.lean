/-
  DERIVED. GIVEN WITH THE SEED: THE CARDS: each row of YtpcmnphohneddaaDoorRows.lean that lists a variable, with what it lists TIED to the program's text (the seventh form; the later family's looks); each row that meets fmt, with fmt's text TOLD by the authors' own Lean function (tested against real Go, not proved from fmt's source: count such statements apart). THE CARD IS WHAT COUNTS. Prove the row's statement (the work); the ties are given (YtpcmnphohneddaaDoorTie.lean); close each card by the builder's one call (the guide's Derived/Test/ToyasCard.lean, 'card_holds'). Laid BY PROGRAM, IN A SANDBOX (cutbox-door.mjs). By AI agents, Wed Nov 11 2026. No macro, syntax, notation, axiom, sorry.
-/
import Derived.Test.YtpcmnphohneddaaDoorRows
import GoSem.ClaimSeven
namespace Go.Proofs.YtpcmnphohneddaaDoor
namespace Rows

/-- THE TIED CARD OF 'citadellaw19.IsaBytes'. -/
def isaBytesCard : Claim7 := { stood := { row := isaBytesRow, standIns := [], harness := (true, "f45ebdd10fa854a965ca2f907023215fbc3aa4c3da1542d21b7cb3c60278d5e6"), looks := true }, kinds := [], alts := [], laidByText := true, laidKinds := [.data, .data, .data, .data, .sentinel, .sentinel, .pinned], laidTests := true, laidLooks := .later }
def IsaBytesCardSaid : Prop := Claim7.holds Tryd.pinned (.plain (OpenSpec.ofChange isaBytesSpec)) isaBytesCard

/-- THE TIED CARD OF 'citadellaw19.IsaTexts'. -/
def isaTextsCard : Claim7 := { stood := { row := isaTextsRow, standIns := [], harness := (true, "f45ebdd10fa854a965ca2f907023215fbc3aa4c3da1542d21b7cb3c60278d5e6"), looks := true }, kinds := [], alts := [], laidByText := true, laidKinds := [.data, .data, .data, .data, .sentinel, .sentinel, .pinned], laidTests := true, laidLooks := .later }
def IsaTextsCardSaid : Prop := Claim7.holds Tryd.pinned (.plain (OpenSpec.ofChange isaTextsSpec)) isaTextsCard

/-- THE TIED CARD OF 'citadellaw19.IsaCodes'. -/
def isaCodesCard : Claim7 := { stood := { row := isaCodesRow, standIns := [], harness := (true, "f45ebdd10fa854a965ca2f907023215fbc3aa4c3da1542d21b7cb3c60278d5e6"), looks := true }, kinds := [], alts := [], laidByText := true, laidKinds := [.data, .data, .data, .data, .sentinel, .sentinel, .pinned], laidTests := true, laidLooks := .later }
def IsaCodesCardSaid : Prop := Claim7.holds Tryd.pinned (.plain (OpenSpec.ofChange isaCodesSpec)) isaCodesCard

/-- THE TIED CARD OF 'citadellaw19.IsaBack'. -/
def isaBackCard : Claim7 := { stood := { row := isaBackRow, standIns := [], harness := (true, "f45ebdd10fa854a965ca2f907023215fbc3aa4c3da1542d21b7cb3c60278d5e6"), looks := true }, kinds := [], alts := [], laidByText := true, laidKinds := [.data, .data, .data, .data, .sentinel, .sentinel, .pinned], laidTests := true, laidLooks := .later }
def IsaBackCardSaid : Prop := Claim7.holds Tryd.pinned (.plain (OpenSpec.ofChange isaBackSpec)) isaBackCard

/-- THE TIED CARD OF 'citadellaw19.IsaUnlike'. -/
def isaUnlikeCard : Claim7 := { stood := { row := isaUnlikeRow, standIns := [], harness := (true, "f45ebdd10fa854a965ca2f907023215fbc3aa4c3da1542d21b7cb3c60278d5e6"), looks := true }, kinds := [], alts := [], laidByText := true, laidKinds := [.data, .data, .data, .data, .sentinel, .sentinel, .pinned], laidTests := true, laidLooks := .later }
def IsaUnlikeCardSaid : Prop := Claim7.holds Tryd.pinned (.plain (OpenSpec.ofChange isaUnlikeSpec)) isaUnlikeCard

/-- THE TIED CARD OF 'citadellaw19.IsaLines'. -/
def isaLinesCard : Claim7 := { stood := { row := isaLinesRow, standIns := [], harness := (true, "f45ebdd10fa854a965ca2f907023215fbc3aa4c3da1542d21b7cb3c60278d5e6"), looks := true }, kinds := [], alts := [], laidByText := true, laidKinds := [.data, .data, .data, .data, .sentinel, .sentinel, .pinned], laidTests := true, laidLooks := .later }
def IsaLinesCardSaid : Prop := Claim7.holds Tryd.pinned (.plain (OpenSpec.ofChange isaLinesSpec)) isaLinesCard

/-- THE SECOND FORM's CARD OF 'citadellaw19.IsaBytes'. -/
def isaBytesUptoCard : Claim7 := { stood := { row := isaBytesUptoRow, standIns := [], harness := (true, "f45ebdd10fa854a965ca2f907023215fbc3aa4c3da1542d21b7cb3c60278d5e6"), looks := true }, kinds := [], alts := [], laidByText := true, laidKinds := [.data, .data, .data, .data, .sentinel, .sentinel, .pinned], laidTests := true, laidLooks := .later }
def IsaBytesUptoCardSaid : Prop := Claim7.holds Tryd.pinned (.plain (OpenSpec.upto isaBytesSpec)) isaBytesUptoCard

/-- THE SECOND FORM's CARD OF 'citadellaw19.IsaTexts'. -/
def isaTextsUptoCard : Claim7 := { stood := { row := isaTextsUptoRow, standIns := [], harness := (true, "f45ebdd10fa854a965ca2f907023215fbc3aa4c3da1542d21b7cb3c60278d5e6"), looks := true }, kinds := [], alts := [], laidByText := true, laidKinds := [.data, .data, .data, .data, .sentinel, .sentinel, .pinned], laidTests := true, laidLooks := .later }
def IsaTextsUptoCardSaid : Prop := Claim7.holds Tryd.pinned (.plain (OpenSpec.upto isaTextsSpec)) isaTextsUptoCard

/-- THE SECOND FORM's CARD OF 'citadellaw19.IsaCodes'. -/
def isaCodesUptoCard : Claim7 := { stood := { row := isaCodesUptoRow, standIns := [], harness := (true, "f45ebdd10fa854a965ca2f907023215fbc3aa4c3da1542d21b7cb3c60278d5e6"), looks := true }, kinds := [], alts := [], laidByText := true, laidKinds := [.data, .data, .data, .data, .sentinel, .sentinel, .pinned], laidTests := true, laidLooks := .later }
def IsaCodesUptoCardSaid : Prop := Claim7.holds Tryd.pinned (.plain (OpenSpec.upto isaCodesSpec)) isaCodesUptoCard

/-- THE SECOND FORM's CARD OF 'citadellaw19.IsaBack'. -/
def isaBackUptoCard : Claim7 := { stood := { row := isaBackUptoRow, standIns := [], harness := (true, "f45ebdd10fa854a965ca2f907023215fbc3aa4c3da1542d21b7cb3c60278d5e6"), looks := true }, kinds := [], alts := [], laidByText := true, laidKinds := [.data, .data, .data, .data, .sentinel, .sentinel, .pinned], laidTests := true, laidLooks := .later }
def IsaBackUptoCardSaid : Prop := Claim7.holds Tryd.pinned (.plain (OpenSpec.upto isaBackSpec)) isaBackUptoCard

/-- THE SECOND FORM's CARD OF 'citadellaw19.IsaUnlike'. -/
def isaUnlikeUptoCard : Claim7 := { stood := { row := isaUnlikeUptoRow, standIns := [], harness := (true, "f45ebdd10fa854a965ca2f907023215fbc3aa4c3da1542d21b7cb3c60278d5e6"), looks := true }, kinds := [], alts := [], laidByText := true, laidKinds := [.data, .data, .data, .data, .sentinel, .sentinel, .pinned], laidTests := true, laidLooks := .later }
def IsaUnlikeUptoCardSaid : Prop := Claim7.holds Tryd.pinned (.plain (OpenSpec.upto isaUnlikeSpec)) isaUnlikeUptoCard

/-- THE SECOND FORM's CARD OF 'citadellaw19.IsaLines'. -/
def isaLinesUptoCard : Claim7 := { stood := { row := isaLinesUptoRow, standIns := [], harness := (true, "f45ebdd10fa854a965ca2f907023215fbc3aa4c3da1542d21b7cb3c60278d5e6"), looks := true }, kinds := [], alts := [], laidByText := true, laidKinds := [.data, .data, .data, .data, .sentinel, .sentinel, .pinned], laidTests := true, laidLooks := .later }
def IsaLinesUptoCardSaid : Prop := Claim7.holds Tryd.pinned (.plain (OpenSpec.upto isaLinesSpec)) isaLinesUptoCard
end Rows
end Go.Proofs.YtpcmnphohneddaaDoor
