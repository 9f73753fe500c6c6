/- The document's answer of layer 19: digits. -/
import Derived.Test.YtpcmnphohneddaaDoorRiC
namespace Go.Proofs.YtpcmnphohneddaaDoor
open Go.RowKit
set_option linter.unusedVariables false

/-- the number that digits are; none: they are none -/
def digF (a : Nat) : List UInt8 → Option Nat
  | [] => some a
  | x :: r => if x.toNat < 48 ∨ 57 < x.toNat then none else digF (10 * a + (x.toNat - 48)) r
def digZ (o : Option Nat) : Int := match o with | some n => n | none => -1
def digV (l : List UInt8) : Int := if l.length = 0 ∨ 5 < l.length ∨ (1 < l.length ∧ l.head? = some 48) then -1 else digZ (digF 0 l)

set_option maxRecDepth 100000 in
set_option maxHeartbeats 1000000 in
theorem rDig_nil (w : World) :
    Calls Tryd.prog 34 #[mkStr []] w fun e w' => e = .returned (.int .i64 (-1)) ∧ w = w' := by
  unfold mkStr
  go_enter Tryd.func34, Tryd.ntmps34
  go_wp2_with fail
  go_ret
  exact ⟨rfl, rfl⟩
set_option maxRecDepth 100000 in
set_option maxHeartbeats 1000000 in
theorem rDig_long (l : List UInt8) (w : World) (h : 5 < l.length) (hl : l.length ≤ 1000000) :
    Calls Tryd.prog 34 #[mkStr l] w fun e w' => e = .returned (.int .i64 (-1)) ∧ w = w' := by
  have hb0 : ((l.length : Int) == 0) = false := by rw [beq_eq_false_iff_ne]; omega
  have hb1 : decide (5 < (l.length : Int)) = true := by simp; omega
  unfold mkStr
  go_enter Tryd.func34, Tryd.ntmps34
  go_wp2_with fail
  go_ret
  exact ⟨rfl, rfl⟩
set_option maxRecDepth 100000 in
set_option maxHeartbeats 1000000 in
theorem rDig_nought (y : UInt8) (l : List UInt8) (w : World) (h : l.length < 4) :
    Calls Tryd.prog 34 #[mkStr (48 :: y :: l)] w fun e w' => e = .returned (.int .i64 (-1)) ∧ w = w' := by
  have hb0 : ((((48 : UInt8) :: y :: l).length : Int) == 0) = false := by rw [beq_eq_false_iff_ne]; simp; omega
  unfold mkStr
  go_enter Tryd.func34, Tryd.ntmps34
  go_wp2_with fail
  go_ret
  exact ⟨rfl, rfl⟩
  obtain ⟨_, hz⟩ := ‹_ ∧ ((_ : Int) == 48) = false›
  exact absurd hz (by rw [show (⟨((48 : UInt8) :: y :: l).toArray⟩ : ByteArray)[0] = 48 from rfl]; decide)
end Go.Proofs.YtpcmnphohneddaaDoor
