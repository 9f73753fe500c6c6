/- A parameter that is an instruction, opened. -/
import Derived.Test.YtpcmnphohneddaaDoorIsaOpen
namespace Go.Proofs.YtpcmnphohneddaaDoor
open Go.ChangeShapes Go.WideShapes Go.ChangeAt Go.RowKit
set_option linter.unusedVariables false

section
variable {H : Type} {enc : TypeId × Value → H} {W : World} {base : Nat} {sp : Nat → Bool} {hd : Bool}
set_option maxRecDepth 100000 in
theorem ins_cells {fuel : Nat} {cs : List Value} {x : DataW H × List MemPlace} (h : DataW.trod enc Tryd.prog W base sp hd fuel 23 cs = some x) :
    ∃ (op a b c : Nat) (n : Int), cs = [.int .u8 op, .int .u8 a, .int .u8 b, .int .u8 c, .int .i64 n] ∧ Ins.Bd ⟨op, a, b, c, n⟩ := by
  obtain ⟨xs, m, _, _, hl, hxl, hx⟩ := DataW.trod_struct Tryd.underlying23 h
  have c5 : Tryd.prog.cellsOf 23 = 5 := by kernel_rfl
  have hl' : cs.length = 5 := by rw [hl, c5]
  have hxl' : xs.length = 5 := hxl
  have q0 : DataW.trod enc Tryd.prog W base sp hd m 5 ((cs.drop 0).take (Tryd.prog.cellsOf 5)) = xs[0]? := hx 0 _ rfl
  have q1 : DataW.trod enc Tryd.prog W base sp hd m 5 ((cs.drop 1).take (Tryd.prog.cellsOf 5)) = xs[1]? := hx 1 _ rfl
  have q2 : DataW.trod enc Tryd.prog W base sp hd m 5 ((cs.drop 2).take (Tryd.prog.cellsOf 5)) = xs[2]? := hx 2 _ rfl
  have q3 : DataW.trod enc Tryd.prog W base sp hd m 5 ((cs.drop 3).take (Tryd.prog.cellsOf 5)) = xs[3]? := hx 3 _ rfl
  have q4 : DataW.trod enc Tryd.prog W base sp hd m 3 ((cs.drop 4).take (Tryd.prog.cellsOf 3)) = xs[4]? := hx 4 _ rfl
  rw [List.getElem?_eq_getElem (by omega)] at q0 q1 q2 q3 q4
  have c1 : Tryd.prog.cellsOf 5 = 1 := by kernel_rfl
  have ci : Tryd.prog.cellsOf 3 = 1 := by kernel_rfl
  rw [c1] at q0 q1 q2 q3
  rw [ci] at q4
  obtain ⟨k0, h0, _, w0⟩ := DataW.trod_int Tryd.underlying5 q0
  obtain ⟨k1, h1, _, w1⟩ := DataW.trod_int Tryd.underlying5 q1
  obtain ⟨k2, h2, _, w2⟩ := DataW.trod_int Tryd.underlying5 q2
  obtain ⟨k3, h3, _, w3⟩ := DataW.trod_int Tryd.underlying5 q3
  obtain ⟨k4, h4, _, w4⟩ := DataW.trod_int Tryd.underlying3 q4
  obtain ⟨op, rfl, b0⟩ := u8_nat w0
  obtain ⟨a, rfl, b1⟩ := u8_nat w1
  obtain ⟨b, rfl, b2⟩ := u8_nat w2
  obtain ⟨c, rfl, b3⟩ := u8_nat w3
  have b4 := _root_.Go.bounds_i64 w4
  refine ⟨op, a, b, c, k4, ?_, b0, b1, b2, b3, b4.1, b4.2⟩
  have e0 := one_of_take h0
  have e1 := one_of_take h1
  have e2 := one_of_take h2
  have e3 := one_of_take h3
  have e4 := one_of_take h4
  match cs, hl', e0, e1, e2, e3, e4 with
  | [v, x, y, z, u], _, e0, e1, e2, e3, e4 =>
    simp only [List.getElem?_cons_zero, List.getElem?_cons_succ, Option.some.injEq] at e0 e1 e2 e3 e4
    subst e0 e1 e2 e3 e4
    rfl
set_option maxRecDepth 100000 in
theorem open_ins {r0 : Reach} {b0 : Nat} {v : Value} {d : DataW H} {ps : List MemPlace} (hval : Value.okWide Tryd.prog W r0 b0 23 v) (h : DataW.Trod enc Tryd.prog W base sp hd 23 v d ps) :
    ∃ (op a b c : Nat) (n : Int), v = .agg #[.int .u8 op, .int .u8 a, .int .u8 b, .int .u8 c, .int .i64 n] ∧ Ins.Bd ⟨op, a, b, c, n⟩ := by
  obtain ⟨cs, rfl, _⟩ := okWide_struct Tryd.underlying23 hval
  obtain ⟨fuel, hf⟩ := h
  obtain ⟨op, a, b, c, n, hr, ho⟩ := ins_cells hf
  refine ⟨op, a, b, c, n, ?_, ho⟩
  congr 1
  exact Array.toList_inj.1 hr
end
end Go.Proofs.YtpcmnphohneddaaDoor
