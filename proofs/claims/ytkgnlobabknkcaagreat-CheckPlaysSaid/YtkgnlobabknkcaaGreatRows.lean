/-
  No cell of these rows narrows 'for every input' (looked for: loops, veiled, ifaces, maps, wideKeys, modest, calm, conditions, laid).
  DERIVED. THE GIVEN ROWS OF THIS SEAT. 5 by the template 'for every input the law returns true; each argument reads behind the call as it read before'; 0 by the template 'total and deterministic' (their statements: YtkgnlobabknkcaaGreatTotals.lean).
  GIVEN WITH THE SEED: the statements are not yours to turn. If you find one false, say at which input.
  Laid BY PROGRAM, IN A SANDBOX (cutbox-rows.mjs): the forced cells as the released guide's own fill.sh prints them over the translation f5a24ab0ead4fce4… (all of the seat's roots in one cut). By AI agents, Wed Nov 11 2026. No macro, syntax, notation, axiom, sorry.
-/
import Derived.Test.YtkgnlobabknkcaaGreatChecked
import GoSem.Claim
import GoSem.ClaimJoined
import GoSem.ClaimMapViews
import Derived.JoinedTies
import Derived.KernelRfl
namespace Go.Proofs.YtkgnlobabknkcaaGreat
/- THE CELL 'sum', in the pinned program and in every row, IS THE sha256 OF THE DUMP (.gsa) THAT YtkgnlobabknkcaaGreatProg.lean LOADS. Nothing in Lean hashes anything: it is a label: what it is worth is what the hold of that sum in a sandbox is worth. -/
noncomputable def Tryz.pinned : Pinned := { name := "ytkgnlobabknkcaagreat", sum := "f5a24ab0ead4fce4d3ac6968672bde3777f9dac05000b1f5072688c3fd1f8e69", checked := Tryz.checked }
namespace Rows
def none {H : Type} : Left H := { results := [], args := [] }

/-- 'citadellaw25.CheckNil': WHATEVER THE INPUT: true; the input reads as it did. -/
def checkNilSpec : ChangeSpec := { name := "checkNil", fn := fun _ => fun
  | [d1, d2, d3] => { results := [.lit (.bool true)], args := [d1, d2, d3] }
  | _ => none }
def checkNilRow : OpenClaim := { program := "ytkgnlobabknkcaagreat", sum := "f5a24ab0ead4fce4d3ac6968672bde3777f9dac05000b1f5072688c3fd1f8e69", func := "citadel/citadellaw25.CheckNil", spec := "checkNil", inPlace := ["internal/bytealg.MakeNoZero", "internal/bytealg.abigen_runtime_cmpstring"], unfollowed := true, recurses := true, apart := false }
def CheckNilSaid : Prop := checkNilRow.holds Tryz.pinned (OpenSpec.ofChange checkNilSpec)

/-- ITS FALSE NEIGHBOUR: 'it returns false'. Refute it at one input. -/
def checkNilWrong : ChangeSpec := { name := "checkNil", fn := fun _ => fun
  | [d1, d2, d3] => { results := [.lit (.bool false)], args := [d1, d2, d3] }
  | _ => none }
def CheckNilWrongFalsely : Prop := checkNilRow.holds Tryz.pinned (OpenSpec.ofChange checkNilWrong)

/-- 'citadellaw25.CheckPlays': WHATEVER THE INPUT: true; the input reads as it did. -/
def checkPlaysSpec : ChangeSpec := { name := "checkPlays", fn := fun _ => fun
  | [d] => { results := [.lit (.bool true)], args := [d] }
  | _ => none }
def checkPlaysRow : OpenClaim := { program := "ytkgnlobabknkcaagreat", sum := "f5a24ab0ead4fce4d3ac6968672bde3777f9dac05000b1f5072688c3fd1f8e69", func := "citadel/citadellaw25.CheckPlays", spec := "checkPlays", inPlace := ["internal/bytealg.MakeNoZero", "internal/bytealg.abigen_runtime_cmpstring"], unfollowed := true, recurses := true, apart := false }
def CheckPlaysSaid : Prop := checkPlaysRow.holds Tryz.pinned (OpenSpec.ofChange checkPlaysSpec)

/-- ITS FALSE NEIGHBOUR: 'it returns false'. Refute it at one input. -/
def checkPlaysWrong : ChangeSpec := { name := "checkPlays", fn := fun _ => fun
  | [d] => { results := [.lit (.bool false)], args := [d] }
  | _ => none }
def CheckPlaysWrongFalsely : Prop := checkPlaysRow.holds Tryz.pinned (OpenSpec.ofChange checkPlaysWrong)

/-- 'citadellaw25.CheckBack': WHATEVER THE INPUT: true; the input reads as it did. -/
def checkBackSpec : ChangeSpec := { name := "checkBack", fn := fun _ => fun
  | [d1, d2, d3, d4] => { results := [.lit (.bool true)], args := [d1, d2, d3, d4] }
  | _ => none }
def checkBackRow : OpenClaim := { program := "ytkgnlobabknkcaagreat", sum := "f5a24ab0ead4fce4d3ac6968672bde3777f9dac05000b1f5072688c3fd1f8e69", func := "citadel/citadellaw25.CheckBack", spec := "checkBack", inPlace := ["internal/bytealg.MakeNoZero", "internal/bytealg.abigen_runtime_cmpstring"], unfollowed := true, recurses := true, apart := false }
def CheckBackSaid : Prop := checkBackRow.holds Tryz.pinned (OpenSpec.ofChange checkBackSpec)

/-- ITS FALSE NEIGHBOUR: 'it returns false'. Refute it at one input. -/
def checkBackWrong : ChangeSpec := { name := "checkBack", fn := fun _ => fun
  | [d1, d2, d3, d4] => { results := [.lit (.bool false)], args := [d1, d2, d3, d4] }
  | _ => none }
def CheckBackWrongFalsely : Prop := checkBackRow.holds Tryz.pinned (OpenSpec.ofChange checkBackWrong)

/-- 'citadellaw25.CheckOne': WHATEVER THE INPUT: true; the input reads as it did. -/
def checkOneSpec : ChangeSpec := { name := "checkOne", fn := fun _ => fun
  | [d1, d2, d3, d4] => { results := [.lit (.bool true)], args := [d1, d2, d3, d4] }
  | _ => none }
def checkOneRow : OpenClaim := { program := "ytkgnlobabknkcaagreat", sum := "f5a24ab0ead4fce4d3ac6968672bde3777f9dac05000b1f5072688c3fd1f8e69", func := "citadel/citadellaw25.CheckOne", spec := "checkOne", inPlace := ["internal/bytealg.MakeNoZero", "internal/bytealg.abigen_runtime_cmpstring"], unfollowed := true, recurses := true, apart := false }
def CheckOneSaid : Prop := checkOneRow.holds Tryz.pinned (OpenSpec.ofChange checkOneSpec)

/-- ITS FALSE NEIGHBOUR: 'it returns false'. Refute it at one input. -/
def checkOneWrong : ChangeSpec := { name := "checkOne", fn := fun _ => fun
  | [d1, d2, d3, d4] => { results := [.lit (.bool false)], args := [d1, d2, d3, d4] }
  | _ => none }
def CheckOneWrongFalsely : Prop := checkOneRow.holds Tryz.pinned (OpenSpec.ofChange checkOneWrong)

/-- 'citadellaw25.CheckMany': WHATEVER THE INPUT: true; the input reads as it did. -/
def checkManySpec : ChangeSpec := { name := "checkMany", fn := fun _ => fun
  | [d1, d2, d3, d4] => { results := [.lit (.bool true)], args := [d1, d2, d3, d4] }
  | _ => none }
def checkManyRow : OpenClaim := { program := "ytkgnlobabknkcaagreat", sum := "f5a24ab0ead4fce4d3ac6968672bde3777f9dac05000b1f5072688c3fd1f8e69", func := "citadel/citadellaw25.CheckMany", spec := "checkMany", inPlace := ["internal/bytealg.MakeNoZero", "internal/bytealg.abigen_runtime_cmpstring"], unfollowed := true, recurses := true, apart := false }
def CheckManySaid : Prop := checkManyRow.holds Tryz.pinned (OpenSpec.ofChange checkManySpec)

/-- ITS FALSE NEIGHBOUR: 'it returns false'. Refute it at one input. -/
def checkManyWrong : ChangeSpec := { name := "checkMany", fn := fun _ => fun
  | [d1, d2, d3, d4] => { results := [.lit (.bool false)], args := [d1, d2, d3, d4] }
  | _ => none }
def CheckManyWrongFalsely : Prop := checkManyRow.holds Tryz.pinned (OpenSpec.ofChange checkManyWrong)

/- THE SECOND FORM. 'bulk': how many values and letters a reading holds, each counted each time it is reached (what is shared counts as often as it is met; a slice's spare places count too). A statement '..UptoSaid' is the law's where the arguments, and the package variables that the reading takes, are together of bulk at most 1048576: NARROWER than '..Said'. Prove '..Said' where nothing that the law and all that it calls make is longer than what came in: it says more and counts as full. Else prove '..UptoSaid'. A law counts once. -/
mutual
def uptoBulk {H : Type} : DataW H → Nat
  | .lit (.string bytes) => bytes.length + 1
  | .lit _ => 1
  | .nil => 1
  | .ptr d => uptoBulk d + 1
  | .slice elems spare => uptoBulkAll elems + uptoBulkAll spare + 1
  | .agg parts => uptoBulkAll parts + 1
  | .iface _ d => uptoBulk d + 1
  | .map entries => uptoBulkEntries entries + 1
  | .held _ => 1
def uptoBulkAll {H : Type} : List (DataW H) → Nat
  | [] => 0
  | d :: r => uptoBulk d + uptoBulkAll r
def uptoBulkEntries {H : Type} : List (Lit × DataW H) → Nat
  | [] => 0
  | x :: r => uptoBulkEntry x + uptoBulkEntries r
def uptoBulkEntry {H : Type} : Lit × DataW H → Nat
  | (.string bytes, d) => bytes.length + uptoBulk d + 1
  | (_, d) => uptoBulk d + 1
 end
def uptoSmall : (H : Type) → List (DataW H) → Bool := fun _ ds => decide (uptoBulkAll ds ≤ 1048576)
def OpenSpec.upto (s : _root_.Go.ChangeSpec) : _root_.Go.OpenSpec := { _root_.Go.OpenSpec.ofChange s with cond := some uptoSmall }

/-- 'citadellaw25.CheckNil', WHERE WHAT IT READS IS OF BULK AT MOST 1048576: true; the input reads as it did. -/
def checkNilUptoRow : OpenClaim := { program := "ytkgnlobabknkcaagreat", sum := "f5a24ab0ead4fce4d3ac6968672bde3777f9dac05000b1f5072688c3fd1f8e69", func := "citadel/citadellaw25.CheckNil", spec := "checkNil", inPlace := ["internal/bytealg.MakeNoZero", "internal/bytealg.abigen_runtime_cmpstring"], unfollowed := true, recurses := true, apart := false, narrowed := true }
def CheckNilUptoSaid : Prop := checkNilUptoRow.holds Tryz.pinned (OpenSpec.upto checkNilSpec)

/-- 'citadellaw25.CheckPlays', WHERE WHAT IT READS IS OF BULK AT MOST 1048576: true; the input reads as it did. -/
def checkPlaysUptoRow : OpenClaim := { program := "ytkgnlobabknkcaagreat", sum := "f5a24ab0ead4fce4d3ac6968672bde3777f9dac05000b1f5072688c3fd1f8e69", func := "citadel/citadellaw25.CheckPlays", spec := "checkPlays", inPlace := ["internal/bytealg.MakeNoZero", "internal/bytealg.abigen_runtime_cmpstring"], unfollowed := true, recurses := true, apart := false, narrowed := true }
def CheckPlaysUptoSaid : Prop := checkPlaysUptoRow.holds Tryz.pinned (OpenSpec.upto checkPlaysSpec)

/-- 'citadellaw25.CheckBack', WHERE WHAT IT READS IS OF BULK AT MOST 1048576: true; the input reads as it did. -/
def checkBackUptoRow : OpenClaim := { program := "ytkgnlobabknkcaagreat", sum := "f5a24ab0ead4fce4d3ac6968672bde3777f9dac05000b1f5072688c3fd1f8e69", func := "citadel/citadellaw25.CheckBack", spec := "checkBack", inPlace := ["internal/bytealg.MakeNoZero", "internal/bytealg.abigen_runtime_cmpstring"], unfollowed := true, recurses := true, apart := false, narrowed := true }
def CheckBackUptoSaid : Prop := checkBackUptoRow.holds Tryz.pinned (OpenSpec.upto checkBackSpec)

/-- 'citadellaw25.CheckOne', WHERE WHAT IT READS IS OF BULK AT MOST 1048576: true; the input reads as it did. -/
def checkOneUptoRow : OpenClaim := { program := "ytkgnlobabknkcaagreat", sum := "f5a24ab0ead4fce4d3ac6968672bde3777f9dac05000b1f5072688c3fd1f8e69", func := "citadel/citadellaw25.CheckOne", spec := "checkOne", inPlace := ["internal/bytealg.MakeNoZero", "internal/bytealg.abigen_runtime_cmpstring"], unfollowed := true, recurses := true, apart := false, narrowed := true }
def CheckOneUptoSaid : Prop := checkOneUptoRow.holds Tryz.pinned (OpenSpec.upto checkOneSpec)

/-- 'citadellaw25.CheckMany', WHERE WHAT IT READS IS OF BULK AT MOST 1048576: true; the input reads as it did. -/
def checkManyUptoRow : OpenClaim := { program := "ytkgnlobabknkcaagreat", sum := "f5a24ab0ead4fce4d3ac6968672bde3777f9dac05000b1f5072688c3fd1f8e69", func := "citadel/citadellaw25.CheckMany", spec := "checkMany", inPlace := ["internal/bytealg.MakeNoZero", "internal/bytealg.abigen_runtime_cmpstring"], unfollowed := true, recurses := true, apart := false, narrowed := true }
def CheckManyUptoSaid : Prop := checkManyUptoRow.holds Tryz.pinned (OpenSpec.upto checkManySpec)

end Rows
end Go.Proofs.YtkgnlobabknkcaaGreat
