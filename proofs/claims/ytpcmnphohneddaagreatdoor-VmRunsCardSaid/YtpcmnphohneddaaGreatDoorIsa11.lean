/- Walk of citadellaw19.awake. -/
import Derived.Test.YtpcmnphohneddaaGreatDoorIsa10
import Derived.Test.YtpcmnphohneddaaGreatDoorIsaD
import Derived.Deep.QuietTactic
namespace Go.Proofs.YtpcmnphohneddaaGreatDoor
open Go.RowKit
set_option linter.unusedVariables false

theorem exec_convert {P : Program} {w : World} {ev : Operand → Value} {o : Oper} (t1 t2 : TypeId) (x : Operand) (ho : o.op = .convert t1 t2 x) (v sl : Value) (hx : ev x = sl) (h : (convert t1 t2 sl).run P w = .ok v w) :
    (execOp ev o).run P w = .ok (.value v) w := by
  unfold execOp
  rw [ho]
  simp [hx, h]

end Go.Proofs.YtpcmnphohneddaaGreatDoor
