/-
  No cell of these rows narrows 'for every input' (looked for: loops, veiled, ifaces, maps, wideKeys, modest, calm, conditions, laid).
  DERIVED. THE GIVEN ROWS OF THIS SEAT. 4 by the template 'for every input the law returns true; each argument reads behind the call as it read before'; 0 by the template 'total and deterministic' (their statements: YthhbdejagglgbaaTotals.lean).
  GIVEN WITH THE SEED: the statements are not yours to turn. If you find one false, say at which input.
  Laid BY PROGRAM, IN A SANDBOX (cutbox-rows.mjs): the forced cells as the released guide's own fill.sh prints them over the translation 04cbd5c282228a31… (all of the seat's roots in one cut). By AI agents, Wed Nov 11 2026. No macro, syntax, notation, axiom, sorry.
-/
import Derived.Test.YthhbdejagglgbaaChecked
import GoSem.Claim
import GoSem.ClaimJoined
import GoSem.ClaimMapViews
import Derived.JoinedTies
import Derived.KernelRfl
namespace Go.Proofs.Ythhbdejagglgbaa
/- THE CELL 'sum', in the pinned program and in every row, IS THE sha256 OF THE DUMP (.gsa) THAT YthhbdejagglgbaaProg.lean LOADS. Nothing in Lean hashes anything: it is a label: what it is worth is what the hold of that sum in a sandbox is worth. -/
noncomputable def Try.pinned : Pinned := { name := "ythhbdejagglgbaa", sum := "04cbd5c282228a312c937f90ea7599f94c4a44d1aa8e9324952619a562524375", checked := Try.checked }
namespace Rows
def none {H : Type} : Left H := { results := [], args := [] }

/-- 'citadellaw17.AttemptNil': WHATEVER THE INPUT: true; the input reads as it did. -/
def attemptNilSpec : ChangeSpec := { name := "attemptNil", fn := fun _ => fun
  | [d1, d2] => { results := [.lit (.bool true)], args := [d1, d2] }
  | _ => none }
def attemptNilRow : OpenClaim := { program := "ythhbdejagglgbaa", sum := "04cbd5c282228a312c937f90ea7599f94c4a44d1aa8e9324952619a562524375", func := "citadel/citadellaw17.AttemptNil", spec := "attemptNil", inPlace := ["internal/bytealg.MakeNoZero", "internal/bytealg.abigen_runtime_cmpstring"], unfollowed := true, recurses := true, apart := false }
def AttemptNilSaid : Prop := attemptNilRow.holds Try.pinned (OpenSpec.ofChange attemptNilSpec)

/-- ITS FALSE NEIGHBOUR: 'it returns false'. Refute it at one input. -/
def attemptNilWrong : ChangeSpec := { name := "attemptNil", fn := fun _ => fun
  | [d1, d2] => { results := [.lit (.bool false)], args := [d1, d2] }
  | _ => none }
def AttemptNilWrongFalsely : Prop := attemptNilRow.holds Try.pinned (OpenSpec.ofChange attemptNilWrong)

/-- 'citadellaw17.AttemptApart': WHATEVER THE INPUT: true; the input reads as it did. -/
def attemptApartSpec : ChangeSpec := { name := "attemptApart", fn := fun _ => fun
  | [d1, d2, d3, d4] => { results := [.lit (.bool true)], args := [d1, d2, d3, d4] }
  | _ => none }
def attemptApartRow : OpenClaim := { program := "ythhbdejagglgbaa", sum := "04cbd5c282228a312c937f90ea7599f94c4a44d1aa8e9324952619a562524375", func := "citadel/citadellaw17.AttemptApart", spec := "attemptApart", inPlace := ["internal/bytealg.MakeNoZero", "internal/bytealg.abigen_runtime_cmpstring"], unfollowed := true, recurses := true, apart := false }
def AttemptApartSaid : Prop := attemptApartRow.holds Try.pinned (OpenSpec.ofChange attemptApartSpec)

/-- ITS FALSE NEIGHBOUR: 'it returns false'. Refute it at one input. -/
def attemptApartWrong : ChangeSpec := { name := "attemptApart", fn := fun _ => fun
  | [d1, d2, d3, d4] => { results := [.lit (.bool false)], args := [d1, d2, d3, d4] }
  | _ => none }
def AttemptApartWrongFalsely : Prop := attemptApartRow.holds Try.pinned (OpenSpec.ofChange attemptApartWrong)

/-- 'citadellaw17.AttemptPut': WHATEVER THE INPUT: true; the input reads as it did. -/
def attemptPutSpec : ChangeSpec := { name := "attemptPut", fn := fun _ => fun
  | [d1, d2, d3, d4] => { results := [.lit (.bool true)], args := [d1, d2, d3, d4] }
  | _ => none }
def attemptPutRow : OpenClaim := { program := "ythhbdejagglgbaa", sum := "04cbd5c282228a312c937f90ea7599f94c4a44d1aa8e9324952619a562524375", func := "citadel/citadellaw17.AttemptPut", spec := "attemptPut", inPlace := ["internal/bytealg.MakeNoZero", "internal/bytealg.abigen_runtime_cmpstring"], unfollowed := true, recurses := true, apart := false }
def AttemptPutSaid : Prop := attemptPutRow.holds Try.pinned (OpenSpec.ofChange attemptPutSpec)

/-- ITS FALSE NEIGHBOUR: 'it returns false'. Refute it at one input. -/
def attemptPutWrong : ChangeSpec := { name := "attemptPut", fn := fun _ => fun
  | [d1, d2, d3, d4] => { results := [.lit (.bool false)], args := [d1, d2, d3, d4] }
  | _ => none }
def AttemptPutWrongFalsely : Prop := attemptPutRow.holds Try.pinned (OpenSpec.ofChange attemptPutWrong)

/-- 'citadellaw17.AttemptCounts': WHATEVER THE INPUT: true; the input reads as it did. -/
def attemptCountsSpec : ChangeSpec := { name := "attemptCounts", fn := fun _ => fun
  | [d1, d2, d3, d4] => { results := [.lit (.bool true)], args := [d1, d2, d3, d4] }
  | _ => none }
def attemptCountsRow : OpenClaim := { program := "ythhbdejagglgbaa", sum := "04cbd5c282228a312c937f90ea7599f94c4a44d1aa8e9324952619a562524375", func := "citadel/citadellaw17.AttemptCounts", spec := "attemptCounts", inPlace := ["internal/bytealg.MakeNoZero", "internal/bytealg.abigen_runtime_cmpstring"], unfollowed := true, recurses := true, apart := false }
def AttemptCountsSaid : Prop := attemptCountsRow.holds Try.pinned (OpenSpec.ofChange attemptCountsSpec)

/-- ITS FALSE NEIGHBOUR: 'it returns false'. Refute it at one input. -/
def attemptCountsWrong : ChangeSpec := { name := "attemptCounts", fn := fun _ => fun
  | [d1, d2, d3, d4] => { results := [.lit (.bool false)], args := [d1, d2, d3, d4] }
  | _ => none }
def AttemptCountsWrongFalsely : Prop := attemptCountsRow.holds Try.pinned (OpenSpec.ofChange attemptCountsWrong)

/- THE SECOND FORM. 'bulk': how many values and letters a reading holds, each counted each time it is reached (what is shared counts as often as it is met; a slice's spare places count too). A statement '..UptoSaid' is the law's where the arguments, and the package variables that the reading takes, are together of bulk at most 1048576: NARROWER than '..Said'. Prove '..Said' where nothing that the law and all that it calls make is longer than what came in: it says more and counts as full. Else prove '..UptoSaid'. A law counts once. -/
mutual
def uptoBulk {H : Type} : DataW H → Nat
  | .lit (.string bytes) => bytes.length + 1
  | .lit _ => 1
  | .nil => 1
  | .ptr d => uptoBulk d + 1
  | .slice elems spare => uptoBulkAll elems + uptoBulkAll spare + 1
  | .agg parts => uptoBulkAll parts + 1
  | .iface _ d => uptoBulk d + 1
  | .map entries => uptoBulkEntries entries + 1
  | .held _ => 1
def uptoBulkAll {H : Type} : List (DataW H) → Nat
  | [] => 0
  | d :: r => uptoBulk d + uptoBulkAll r
def uptoBulkEntries {H : Type} : List (Lit × DataW H) → Nat
  | [] => 0
  | x :: r => uptoBulkEntry x + uptoBulkEntries r
def uptoBulkEntry {H : Type} : Lit × DataW H → Nat
  | (.string bytes, d) => bytes.length + uptoBulk d + 1
  | (_, d) => uptoBulk d + 1
 end
def uptoSmall : (H : Type) → List (DataW H) → Bool := fun _ ds => decide (uptoBulkAll ds ≤ 1048576)
def OpenSpec.upto (s : _root_.Go.ChangeSpec) : _root_.Go.OpenSpec := { _root_.Go.OpenSpec.ofChange s with cond := some uptoSmall }

/-- 'citadellaw17.AttemptNil', WHERE WHAT IT READS IS OF BULK AT MOST 1048576: true; the input reads as it did. -/
def attemptNilUptoRow : OpenClaim := { program := "ythhbdejagglgbaa", sum := "04cbd5c282228a312c937f90ea7599f94c4a44d1aa8e9324952619a562524375", func := "citadel/citadellaw17.AttemptNil", spec := "attemptNil", inPlace := ["internal/bytealg.MakeNoZero", "internal/bytealg.abigen_runtime_cmpstring"], unfollowed := true, recurses := true, apart := false, narrowed := true }
def AttemptNilUptoSaid : Prop := attemptNilUptoRow.holds Try.pinned (OpenSpec.upto attemptNilSpec)

/-- 'citadellaw17.AttemptApart', WHERE WHAT IT READS IS OF BULK AT MOST 1048576: true; the input reads as it did. -/
def attemptApartUptoRow : OpenClaim := { program := "ythhbdejagglgbaa", sum := "04cbd5c282228a312c937f90ea7599f94c4a44d1aa8e9324952619a562524375", func := "citadel/citadellaw17.AttemptApart", spec := "attemptApart", inPlace := ["internal/bytealg.MakeNoZero", "internal/bytealg.abigen_runtime_cmpstring"], unfollowed := true, recurses := true, apart := false, narrowed := true }
def AttemptApartUptoSaid : Prop := attemptApartUptoRow.holds Try.pinned (OpenSpec.upto attemptApartSpec)

/-- 'citadellaw17.AttemptPut', WHERE WHAT IT READS IS OF BULK AT MOST 1048576: true; the input reads as it did. -/
def attemptPutUptoRow : OpenClaim := { program := "ythhbdejagglgbaa", sum := "04cbd5c282228a312c937f90ea7599f94c4a44d1aa8e9324952619a562524375", func := "citadel/citadellaw17.AttemptPut", spec := "attemptPut", inPlace := ["internal/bytealg.MakeNoZero", "internal/bytealg.abigen_runtime_cmpstring"], unfollowed := true, recurses := true, apart := false, narrowed := true }
def AttemptPutUptoSaid : Prop := attemptPutUptoRow.holds Try.pinned (OpenSpec.upto attemptPutSpec)

/-- 'citadellaw17.AttemptCounts', WHERE WHAT IT READS IS OF BULK AT MOST 1048576: true; the input reads as it did. -/
def attemptCountsUptoRow : OpenClaim := { program := "ythhbdejagglgbaa", sum := "04cbd5c282228a312c937f90ea7599f94c4a44d1aa8e9324952619a562524375", func := "citadel/citadellaw17.AttemptCounts", spec := "attemptCounts", inPlace := ["internal/bytealg.MakeNoZero", "internal/bytealg.abigen_runtime_cmpstring"], unfollowed := true, recurses := true, apart := false, narrowed := true }
def AttemptCountsUptoSaid : Prop := attemptCountsUptoRow.holds Try.pinned (OpenSpec.upto attemptCountsSpec)

end Rows
end Go.Proofs.Ythhbdejagglgbaa
