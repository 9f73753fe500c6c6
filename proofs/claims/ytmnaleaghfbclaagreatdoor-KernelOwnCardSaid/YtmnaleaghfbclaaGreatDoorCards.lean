/-
  DERIVED. GIVEN WITH THE SEED: THE CARDS: each row of YtmnaleaghfbclaaGreatDoorRows.lean that lists a variable, with what it lists TIED to the program's text (the seventh form; the later family's looks); each row that meets fmt, with fmt's text TOLD by the authors' own Lean function (tested against real Go, not proved from fmt's source: count such statements apart). THE CARD IS WHAT COUNTS. Prove the row's statement (the work); the ties are given (YtmnaleaghfbclaaGreatDoorTie.lean); close each card by the builder's one call (the guide's Derived/Test/ToyasCard.lean, 'card_holds'). Laid BY PROGRAM, IN A SANDBOX (cutbox-door.mjs). By AI agents, Wed Nov 11 2026. No macro, syntax, notation, axiom, sorry.
-/
import Derived.Test.YtmnaleaghfbclaaGreatDoorRows
import GoSem.ClaimSeven
namespace Go.Proofs.YtmnaleaghfbclaaGreatDoor
namespace Rows

/-- THE TIED CARD OF 'citadellaw23.KernelPlays'. -/
def kernelPlaysCard : Claim7 := { stood := { row := kernelPlaysRow, standIns := [], harness := (true, "468e141a10978b74fdfe847010f0e967f4811df7a492f1332eae271c01dbae81"), looks := true }, kinds := [], alts := [], laidByText := true, laidKinds := [.data, .data, .data, .data, .sentinel, .sentinel, .pinned], laidTests := true, laidLooks := .later }
def KernelPlaysCardSaid : Prop := Claim7.holds Tryz.pinned (.plain (OpenSpec.ofChange kernelPlaysSpec)) kernelPlaysCard

/-- THE TIED CARD OF 'citadellaw23.KernelNil'. -/
def kernelNilCard : Claim7 := { stood := { row := kernelNilRow, standIns := [], harness := (true, "468e141a10978b74fdfe847010f0e967f4811df7a492f1332eae271c01dbae81"), looks := true }, kinds := [], alts := [], laidByText := true, laidKinds := [.data, .data, .data, .data, .sentinel, .sentinel, .pinned], laidTests := true, laidLooks := .later }
def KernelNilCardSaid : Prop := Claim7.holds Tryz.pinned (.plain (OpenSpec.ofChange kernelNilSpec)) kernelNilCard

/-- THE TIED CARD OF 'citadellaw23.KernelApart'. -/
def kernelApartCard : Claim7 := { stood := { row := kernelApartRow, standIns := [], harness := (true, "468e141a10978b74fdfe847010f0e967f4811df7a492f1332eae271c01dbae81"), looks := true }, kinds := [], alts := [], laidByText := true, laidKinds := [.data, .data, .data, .data, .sentinel, .sentinel, .pinned], laidTests := true, laidLooks := .later }
def KernelApartCardSaid : Prop := Claim7.holds Tryz.pinned (.plain (OpenSpec.ofChange kernelApartSpec)) kernelApartCard

/-- THE TIED CARD OF 'citadellaw23.KernelOwn'. -/
def kernelOwnCard : Claim7 := { stood := { row := kernelOwnRow, standIns := [], harness := (true, "468e141a10978b74fdfe847010f0e967f4811df7a492f1332eae271c01dbae81"), looks := true }, kinds := [], alts := [], laidByText := true, laidKinds := [.data, .data, .data, .data, .sentinel, .sentinel, .pinned], laidTests := true, laidLooks := .later }
def KernelOwnCardSaid : Prop := Claim7.holds Tryz.pinned (.plain (OpenSpec.ofChange kernelOwnSpec)) kernelOwnCard

/-- THE TIED CARD OF 'citadellaw23.KernelTime'. -/
def kernelTimeCard : Claim7 := { stood := { row := kernelTimeRow, standIns := [], harness := (true, "468e141a10978b74fdfe847010f0e967f4811df7a492f1332eae271c01dbae81"), looks := true }, kinds := [], alts := [], laidByText := true, laidKinds := [.data, .data, .data, .data, .sentinel, .sentinel, .pinned], laidTests := true, laidLooks := .later }
def KernelTimeCardSaid : Prop := Claim7.holds Tryz.pinned (.plain (OpenSpec.ofChange kernelTimeSpec)) kernelTimeCard

/-- THE SECOND FORM's CARD OF 'citadellaw23.KernelPlays'. -/
def kernelPlaysUptoCard : Claim7 := { stood := { row := kernelPlaysUptoRow, standIns := [], harness := (true, "468e141a10978b74fdfe847010f0e967f4811df7a492f1332eae271c01dbae81"), looks := true }, kinds := [], alts := [], laidByText := true, laidKinds := [.data, .data, .data, .data, .sentinel, .sentinel, .pinned], laidTests := true, laidLooks := .later }
def KernelPlaysUptoCardSaid : Prop := Claim7.holds Tryz.pinned (.plain (OpenSpec.upto kernelPlaysSpec)) kernelPlaysUptoCard

/-- THE SECOND FORM's CARD OF 'citadellaw23.KernelNil'. -/
def kernelNilUptoCard : Claim7 := { stood := { row := kernelNilUptoRow, standIns := [], harness := (true, "468e141a10978b74fdfe847010f0e967f4811df7a492f1332eae271c01dbae81"), looks := true }, kinds := [], alts := [], laidByText := true, laidKinds := [.data, .data, .data, .data, .sentinel, .sentinel, .pinned], laidTests := true, laidLooks := .later }
def KernelNilUptoCardSaid : Prop := Claim7.holds Tryz.pinned (.plain (OpenSpec.upto kernelNilSpec)) kernelNilUptoCard

/-- THE SECOND FORM's CARD OF 'citadellaw23.KernelApart'. -/
def kernelApartUptoCard : Claim7 := { stood := { row := kernelApartUptoRow, standIns := [], harness := (true, "468e141a10978b74fdfe847010f0e967f4811df7a492f1332eae271c01dbae81"), looks := true }, kinds := [], alts := [], laidByText := true, laidKinds := [.data, .data, .data, .data, .sentinel, .sentinel, .pinned], laidTests := true, laidLooks := .later }
def KernelApartUptoCardSaid : Prop := Claim7.holds Tryz.pinned (.plain (OpenSpec.upto kernelApartSpec)) kernelApartUptoCard

/-- THE SECOND FORM's CARD OF 'citadellaw23.KernelOwn'. -/
def kernelOwnUptoCard : Claim7 := { stood := { row := kernelOwnUptoRow, standIns := [], harness := (true, "468e141a10978b74fdfe847010f0e967f4811df7a492f1332eae271c01dbae81"), looks := true }, kinds := [], alts := [], laidByText := true, laidKinds := [.data, .data, .data, .data, .sentinel, .sentinel, .pinned], laidTests := true, laidLooks := .later }
def KernelOwnUptoCardSaid : Prop := Claim7.holds Tryz.pinned (.plain (OpenSpec.upto kernelOwnSpec)) kernelOwnUptoCard

/-- THE SECOND FORM's CARD OF 'citadellaw23.KernelTime'. -/
def kernelTimeUptoCard : Claim7 := { stood := { row := kernelTimeUptoRow, standIns := [], harness := (true, "468e141a10978b74fdfe847010f0e967f4811df7a492f1332eae271c01dbae81"), looks := true }, kinds := [], alts := [], laidByText := true, laidKinds := [.data, .data, .data, .data, .sentinel, .sentinel, .pinned], laidTests := true, laidLooks := .later }
def KernelTimeUptoCardSaid : Prop := Claim7.holds Tryz.pinned (.plain (OpenSpec.upto kernelTimeSpec)) kernelTimeUptoCard
end Rows
end Go.Proofs.YtmnaleaghfbclaaGreatDoor
