/-
  No cell of these rows narrows 'for every input' (looked for: loops, veiled, ifaces, maps, wideKeys, modest, calm, conditions, laid).
  DERIVED. THE GIVEN ROWS OF THIS SEAT. 7 by the template 'for every input the law returns true; each argument reads behind the call as it read before'; 0 by the template 'total and deterministic' (their statements: YtajkajgifigmbaaGreatTotals.lean).
  GIVEN WITH THE SEED: the statements are not yours to turn. If you find one false, say at which input.
  Laid BY PROGRAM, IN A SANDBOX (cutbox-rows.mjs): the forced cells as the released guide's own fill.sh prints them over the translation e4a034a34596beb6… (all of the seat's roots in one cut). By AI agents, Wed Nov 11 2026. No macro, syntax, notation, axiom, sorry.
-/
import Derived.Test.YtajkajgifigmbaaGreatChecked
import GoSem.Claim
import GoSem.ClaimJoined
import GoSem.ClaimMapViews
import Derived.JoinedTies
import Derived.KernelRfl
namespace Go.Proofs.YtajkajgifigmbaaGreat
/- THE CELL 'sum', in the pinned program and in every row, IS THE sha256 OF THE DUMP (.gsa) THAT YtajkajgifigmbaaGreatProg.lean LOADS. Nothing in Lean hashes anything: it is a label: what it is worth is what the hold of that sum in a sandbox is worth. -/
noncomputable def Tryz.pinned : Pinned := { name := "ytajkajgifigmbaagreat", sum := "e4a034a34596beb6dd487ce6a1600e1ce9dd5221900561e9243a0ff6485cc0f3", checked := Tryz.checked }
namespace Rows
def none {H : Type} : Left H := { results := [], args := [] }

/-- 'citadellaw26.BootNil': WHATEVER THE INPUT: true; the input reads as it did. -/
def bootNilSpec : ChangeSpec := { name := "bootNil", fn := fun _ => fun
  | [d] => { results := [.lit (.bool true)], args := [d] }
  | _ => none }
def bootNilRow : OpenClaim := { program := "ytajkajgifigmbaagreat", sum := "e4a034a34596beb6dd487ce6a1600e1ce9dd5221900561e9243a0ff6485cc0f3", func := "citadel/citadellaw26.BootNil", spec := "bootNil", inPlace := ["internal/bytealg.MakeNoZero", "internal/bytealg.abigen_runtime_cmpstring"], unfollowed := true, recurses := true, apart := false }
def BootNilSaid : Prop := bootNilRow.holds Tryz.pinned (OpenSpec.ofChange bootNilSpec)

/-- ITS FALSE NEIGHBOUR: 'it returns false'. Refute it at one input. -/
def bootNilWrong : ChangeSpec := { name := "bootNil", fn := fun _ => fun
  | [d] => { results := [.lit (.bool false)], args := [d] }
  | _ => none }
def BootNilWrongFalsely : Prop := bootNilRow.holds Tryz.pinned (OpenSpec.ofChange bootNilWrong)

/-- 'citadellaw26.BootPlays': WHATEVER THE INPUT: true; the input reads as it did. -/
def bootPlaysSpec : ChangeSpec := { name := "bootPlays", fn := fun _ => fun
  | [d] => { results := [.lit (.bool true)], args := [d] }
  | _ => none }
def bootPlaysRow : OpenClaim := { program := "ytajkajgifigmbaagreat", sum := "e4a034a34596beb6dd487ce6a1600e1ce9dd5221900561e9243a0ff6485cc0f3", func := "citadel/citadellaw26.BootPlays", spec := "bootPlays", inPlace := ["internal/bytealg.MakeNoZero", "internal/bytealg.abigen_runtime_cmpstring"], unfollowed := true, recurses := true, apart := false }
def BootPlaysSaid : Prop := bootPlaysRow.holds Tryz.pinned (OpenSpec.ofChange bootPlaysSpec)

/-- ITS FALSE NEIGHBOUR: 'it returns false'. Refute it at one input. -/
def bootPlaysWrong : ChangeSpec := { name := "bootPlays", fn := fun _ => fun
  | [d] => { results := [.lit (.bool false)], args := [d] }
  | _ => none }
def BootPlaysWrongFalsely : Prop := bootPlaysRow.holds Tryz.pinned (OpenSpec.ofChange bootPlaysWrong)

/-- 'citadellaw27.UpdatePlays': WHATEVER THE INPUT: true; the input reads as it did. -/
def updatePlaysSpec : ChangeSpec := { name := "updatePlays", fn := fun _ => fun
  | [d1, d2, d3, d4] => { results := [.lit (.bool true)], args := [d1, d2, d3, d4] }
  | _ => none }
def updatePlaysRow : OpenClaim := { program := "ytajkajgifigmbaagreat", sum := "e4a034a34596beb6dd487ce6a1600e1ce9dd5221900561e9243a0ff6485cc0f3", func := "citadel/citadellaw27.UpdatePlays", spec := "updatePlays", inPlace := ["internal/bytealg.MakeNoZero"], unfollowed := true, recurses := true, apart := false }
def UpdatePlaysSaid : Prop := updatePlaysRow.holds Tryz.pinned (OpenSpec.ofChange updatePlaysSpec)

/-- ITS FALSE NEIGHBOUR: 'it returns false'. Refute it at one input. -/
def updatePlaysWrong : ChangeSpec := { name := "updatePlays", fn := fun _ => fun
  | [d1, d2, d3, d4] => { results := [.lit (.bool false)], args := [d1, d2, d3, d4] }
  | _ => none }
def UpdatePlaysWrongFalsely : Prop := updatePlaysRow.holds Tryz.pinned (OpenSpec.ofChange updatePlaysWrong)

/-- 'citadellaw26.BootConfirmed': WHATEVER THE INPUT: true; the input reads as it did. -/
def bootConfirmedSpec : ChangeSpec := { name := "bootConfirmed", fn := fun _ => fun
  | [d1, d2, d3] => { results := [.lit (.bool true)], args := [d1, d2, d3] }
  | _ => none }
def bootConfirmedRow : OpenClaim := { program := "ytajkajgifigmbaagreat", sum := "e4a034a34596beb6dd487ce6a1600e1ce9dd5221900561e9243a0ff6485cc0f3", func := "citadel/citadellaw26.BootConfirmed", spec := "bootConfirmed", inPlace := ["internal/bytealg.MakeNoZero", "internal/bytealg.abigen_runtime_cmpstring"], unfollowed := true, recurses := true, apart := false }
def BootConfirmedSaid : Prop := bootConfirmedRow.holds Tryz.pinned (OpenSpec.ofChange bootConfirmedSpec)

/-- ITS FALSE NEIGHBOUR: 'it returns false'. Refute it at one input. -/
def bootConfirmedWrong : ChangeSpec := { name := "bootConfirmed", fn := fun _ => fun
  | [d1, d2, d3] => { results := [.lit (.bool false)], args := [d1, d2, d3] }
  | _ => none }
def BootConfirmedWrongFalsely : Prop := bootConfirmedRow.holds Tryz.pinned (OpenSpec.ofChange bootConfirmedWrong)

/-- 'citadellaw27.UpdateWhole': WHATEVER THE INPUT: true; the input reads as it did. -/
def updateWholeSpec : ChangeSpec := { name := "updateWhole", fn := fun _ => fun
  | [d1, d2, d3, d4, d5] => { results := [.lit (.bool true)], args := [d1, d2, d3, d4, d5] }
  | _ => none }
def updateWholeRow : OpenClaim := { program := "ytajkajgifigmbaagreat", sum := "e4a034a34596beb6dd487ce6a1600e1ce9dd5221900561e9243a0ff6485cc0f3", func := "citadel/citadellaw27.UpdateWhole", spec := "updateWhole", inPlace := ["internal/bytealg.MakeNoZero", "internal/bytealg.abigen_runtime_cmpstring"], unfollowed := true, recurses := true, apart := false }
def UpdateWholeSaid : Prop := updateWholeRow.holds Tryz.pinned (OpenSpec.ofChange updateWholeSpec)

/-- ITS FALSE NEIGHBOUR: 'it returns false'. Refute it at one input. -/
def updateWholeWrong : ChangeSpec := { name := "updateWhole", fn := fun _ => fun
  | [d1, d2, d3, d4, d5] => { results := [.lit (.bool false)], args := [d1, d2, d3, d4, d5] }
  | _ => none }
def UpdateWholeWrongFalsely : Prop := updateWholeRow.holds Tryz.pinned (OpenSpec.ofChange updateWholeWrong)

/-- 'citadellaw26.BootEnds': WHATEVER THE INPUT: true; the input reads as it did. -/
def bootEndsSpec : ChangeSpec := { name := "bootEnds", fn := fun _ => fun
  | [d1, d2, d3, d4] => { results := [.lit (.bool true)], args := [d1, d2, d3, d4] }
  | _ => none }
def bootEndsRow : OpenClaim := { program := "ytajkajgifigmbaagreat", sum := "e4a034a34596beb6dd487ce6a1600e1ce9dd5221900561e9243a0ff6485cc0f3", func := "citadel/citadellaw26.BootEnds", spec := "bootEnds", inPlace := ["internal/bytealg.MakeNoZero", "internal/bytealg.abigen_runtime_cmpstring"], unfollowed := true, recurses := true, apart := false }
def BootEndsSaid : Prop := bootEndsRow.holds Tryz.pinned (OpenSpec.ofChange bootEndsSpec)

/-- ITS FALSE NEIGHBOUR: 'it returns false'. Refute it at one input. -/
def bootEndsWrong : ChangeSpec := { name := "bootEnds", fn := fun _ => fun
  | [d1, d2, d3, d4] => { results := [.lit (.bool false)], args := [d1, d2, d3, d4] }
  | _ => none }
def BootEndsWrongFalsely : Prop := bootEndsRow.holds Tryz.pinned (OpenSpec.ofChange bootEndsWrong)

/-- 'citadellaw26.BootTwo': WHATEVER THE INPUT: true; the input reads as it did. -/
def bootTwoSpec : ChangeSpec := { name := "bootTwo", fn := fun _ => fun
  | [d1, d2, d3, d4, d5, d6] => { results := [.lit (.bool true)], args := [d1, d2, d3, d4, d5, d6] }
  | _ => none }
def bootTwoRow : OpenClaim := { program := "ytajkajgifigmbaagreat", sum := "e4a034a34596beb6dd487ce6a1600e1ce9dd5221900561e9243a0ff6485cc0f3", func := "citadel/citadellaw26.BootTwo", spec := "bootTwo", inPlace := ["internal/bytealg.MakeNoZero", "internal/bytealg.abigen_runtime_cmpstring"], unfollowed := true, recurses := true, apart := false }
def BootTwoSaid : Prop := bootTwoRow.holds Tryz.pinned (OpenSpec.ofChange bootTwoSpec)

/-- ITS FALSE NEIGHBOUR: 'it returns false'. Refute it at one input. -/
def bootTwoWrong : ChangeSpec := { name := "bootTwo", fn := fun _ => fun
  | [d1, d2, d3, d4, d5, d6] => { results := [.lit (.bool false)], args := [d1, d2, d3, d4, d5, d6] }
  | _ => none }
def BootTwoWrongFalsely : Prop := bootTwoRow.holds Tryz.pinned (OpenSpec.ofChange bootTwoWrong)

/- THE SECOND FORM. 'bulk': how many values and letters a reading holds, each counted each time it is reached (what is shared counts as often as it is met; a slice's spare places count too). A statement '..UptoSaid' is the law's where the arguments, and the package variables that the reading takes, are together of bulk at most 1048576: NARROWER than '..Said'. Prove '..Said' where nothing that the law and all that it calls make is longer than what came in: it says more and counts as full. Else prove '..UptoSaid'. A law counts once. -/
mutual
def uptoBulk {H : Type} : DataW H → Nat
  | .lit (.string bytes) => bytes.length + 1
  | .lit _ => 1
  | .nil => 1
  | .ptr d => uptoBulk d + 1
  | .slice elems spare => uptoBulkAll elems + uptoBulkAll spare + 1
  | .agg parts => uptoBulkAll parts + 1
  | .iface _ d => uptoBulk d + 1
  | .map entries => uptoBulkEntries entries + 1
  | .held _ => 1
def uptoBulkAll {H : Type} : List (DataW H) → Nat
  | [] => 0
  | d :: r => uptoBulk d + uptoBulkAll r
def uptoBulkEntries {H : Type} : List (Lit × DataW H) → Nat
  | [] => 0
  | x :: r => uptoBulkEntry x + uptoBulkEntries r
def uptoBulkEntry {H : Type} : Lit × DataW H → Nat
  | (.string bytes, d) => bytes.length + uptoBulk d + 1
  | (_, d) => uptoBulk d + 1
 end
def uptoSmall : (H : Type) → List (DataW H) → Bool := fun _ ds => decide (uptoBulkAll ds ≤ 1048576)
def OpenSpec.upto (s : _root_.Go.ChangeSpec) : _root_.Go.OpenSpec := { _root_.Go.OpenSpec.ofChange s with cond := some uptoSmall }

/-- 'citadellaw26.BootNil', WHERE WHAT IT READS IS OF BULK AT MOST 1048576: true; the input reads as it did. -/
def bootNilUptoRow : OpenClaim := { program := "ytajkajgifigmbaagreat", sum := "e4a034a34596beb6dd487ce6a1600e1ce9dd5221900561e9243a0ff6485cc0f3", func := "citadel/citadellaw26.BootNil", spec := "bootNil", inPlace := ["internal/bytealg.MakeNoZero", "internal/bytealg.abigen_runtime_cmpstring"], unfollowed := true, recurses := true, apart := false, narrowed := true }
def BootNilUptoSaid : Prop := bootNilUptoRow.holds Tryz.pinned (OpenSpec.upto bootNilSpec)

/-- 'citadellaw26.BootPlays', WHERE WHAT IT READS IS OF BULK AT MOST 1048576: true; the input reads as it did. -/
def bootPlaysUptoRow : OpenClaim := { program := "ytajkajgifigmbaagreat", sum := "e4a034a34596beb6dd487ce6a1600e1ce9dd5221900561e9243a0ff6485cc0f3", func := "citadel/citadellaw26.BootPlays", spec := "bootPlays", inPlace := ["internal/bytealg.MakeNoZero", "internal/bytealg.abigen_runtime_cmpstring"], unfollowed := true, recurses := true, apart := false, narrowed := true }
def BootPlaysUptoSaid : Prop := bootPlaysUptoRow.holds Tryz.pinned (OpenSpec.upto bootPlaysSpec)

/-- 'citadellaw27.UpdatePlays', WHERE WHAT IT READS IS OF BULK AT MOST 1048576: true; the input reads as it did. -/
def updatePlaysUptoRow : OpenClaim := { program := "ytajkajgifigmbaagreat", sum := "e4a034a34596beb6dd487ce6a1600e1ce9dd5221900561e9243a0ff6485cc0f3", func := "citadel/citadellaw27.UpdatePlays", spec := "updatePlays", inPlace := ["internal/bytealg.MakeNoZero"], unfollowed := true, recurses := true, apart := false, narrowed := true }
def UpdatePlaysUptoSaid : Prop := updatePlaysUptoRow.holds Tryz.pinned (OpenSpec.upto updatePlaysSpec)

/-- 'citadellaw26.BootConfirmed', WHERE WHAT IT READS IS OF BULK AT MOST 1048576: true; the input reads as it did. -/
def bootConfirmedUptoRow : OpenClaim := { program := "ytajkajgifigmbaagreat", sum := "e4a034a34596beb6dd487ce6a1600e1ce9dd5221900561e9243a0ff6485cc0f3", func := "citadel/citadellaw26.BootConfirmed", spec := "bootConfirmed", inPlace := ["internal/bytealg.MakeNoZero", "internal/bytealg.abigen_runtime_cmpstring"], unfollowed := true, recurses := true, apart := false, narrowed := true }
def BootConfirmedUptoSaid : Prop := bootConfirmedUptoRow.holds Tryz.pinned (OpenSpec.upto bootConfirmedSpec)

/-- 'citadellaw27.UpdateWhole', WHERE WHAT IT READS IS OF BULK AT MOST 1048576: true; the input reads as it did. -/
def updateWholeUptoRow : OpenClaim := { program := "ytajkajgifigmbaagreat", sum := "e4a034a34596beb6dd487ce6a1600e1ce9dd5221900561e9243a0ff6485cc0f3", func := "citadel/citadellaw27.UpdateWhole", spec := "updateWhole", inPlace := ["internal/bytealg.MakeNoZero", "internal/bytealg.abigen_runtime_cmpstring"], unfollowed := true, recurses := true, apart := false, narrowed := true }
def UpdateWholeUptoSaid : Prop := updateWholeUptoRow.holds Tryz.pinned (OpenSpec.upto updateWholeSpec)

/-- 'citadellaw26.BootEnds', WHERE WHAT IT READS IS OF BULK AT MOST 1048576: true; the input reads as it did. -/
def bootEndsUptoRow : OpenClaim := { program := "ytajkajgifigmbaagreat", sum := "e4a034a34596beb6dd487ce6a1600e1ce9dd5221900561e9243a0ff6485cc0f3", func := "citadel/citadellaw26.BootEnds", spec := "bootEnds", inPlace := ["internal/bytealg.MakeNoZero", "internal/bytealg.abigen_runtime_cmpstring"], unfollowed := true, recurses := true, apart := false, narrowed := true }
def BootEndsUptoSaid : Prop := bootEndsUptoRow.holds Tryz.pinned (OpenSpec.upto bootEndsSpec)

/-- 'citadellaw26.BootTwo', WHERE WHAT IT READS IS OF BULK AT MOST 1048576: true; the input reads as it did. -/
def bootTwoUptoRow : OpenClaim := { program := "ytajkajgifigmbaagreat", sum := "e4a034a34596beb6dd487ce6a1600e1ce9dd5221900561e9243a0ff6485cc0f3", func := "citadel/citadellaw26.BootTwo", spec := "bootTwo", inPlace := ["internal/bytealg.MakeNoZero", "internal/bytealg.abigen_runtime_cmpstring"], unfollowed := true, recurses := true, apart := false, narrowed := true }
def BootTwoUptoSaid : Prop := bootTwoUptoRow.holds Tryz.pinned (OpenSpec.upto bootTwoSpec)

end Rows
end Go.Proofs.YtajkajgifigmbaaGreat
