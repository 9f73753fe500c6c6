/- Closed facts on instructions' texts. -/
import Derived.Test.YtpcmnphohneddaaGreatDoorIsaC
namespace Go.Proofs.YtpcmnphohneddaaGreatDoor
set_option linter.unusedVariables false
def sLw : List UInt8 := [108, 119, 32, 49, 32, 50, 32, 50, 53, 53]
def sAdd : List UInt8 := [97, 100, 100, 32, 49, 32, 50, 32, 51]
def sJmp : List UInt8 := [106, 109, 112, 32, 56]
def sNop : List UInt8 := [110, 111, 112]
theorem p_lw : parseC sLw = some ⟨15, 1, 2, 0, 255⟩ := by decide +kernel
theorem c_three : codeC [sAdd, sJmp, sNop] = some [4, 1, 2, 3, 17, 0, 0, 8, 1, 0, 0, 0] := by decide +kernel
theorem t_set : textL ⟨2, 1, 0, 0, 300⟩ = [115, 101, 116, 32, 49, 32, 51, 48, 48] := by decide +kernel
/-- texts that are none -/
def badT : Nat → List UInt8
  | 0 => [115, 101, 116, 32, 49, 32, 48, 51, 48, 48]
  | 1 => [97, 100, 100, 32, 49, 32, 50]
  | 2 => [78, 111, 112]
  | _ => []
theorem p_bad (k : Nat) : parseC (badT k) = none := by
  rcases k with _ | _ | _ | k
  · decide +kernel
  · decide +kernel
  · decide +kernel
  · show parseC [] = none
    decide +kernel
theorem badT_len (k : Nat) : (badT k).length < 1000000 := by
  rcases k with _ | _ | _ | k <;> simp [badT]
/-- bytes that are none -/
def badQ : Nat → Nat × Nat × Nat × Nat
  | 0 => (0, 0, 0, 0)
  | 1 => (22, 0, 0, 0)
  | 2 => (4, 8, 0, 0)
  | 3 => (1, 0, 0, 1)
  | _ => (17, 1, 0, 0)
theorem q_bad (k : Nat) : mayB (decI (badQ k).1 (badQ k).2.1 (badQ k).2.2.1 (badQ k).2.2.2) = false ∧ (badQ k).1 < 256 ∧ (badQ k).2.1 < 256 ∧ (badQ k).2.2.1 < 256 ∧ (badQ k).2.2.2 < 256 := by
  rcases k with _ | _ | _ | _ | k
  · decide +kernel
  · decide +kernel
  · decide +kernel
  · decide +kernel
  · show mayB (decI 17 1 0 0) = false ∧ 17 < 256 ∧ 1 < 256 ∧ 0 < 256 ∧ 0 < 256
    decide +kernel
theorem p_no : parseC [110, 111] = none := by decide +kernel
end Go.Proofs.YtpcmnphohneddaaGreatDoor
