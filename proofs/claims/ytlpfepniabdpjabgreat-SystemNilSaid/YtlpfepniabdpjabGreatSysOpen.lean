/- A parameter that is an event, opened. -/
import Derived.Test.YtlpfepniabdpjabGreatRows
import Derived.Test.YtlpfepniabdpjabGreatOpen
import Derived.Deep.Slices
namespace Go.Proofs.YtlpfepniabdpjabGreat
open Go.ChangeShapes Go.WideShapes Go.ChangeAt Go.RowKit
set_option linter.unusedVariables false

theorem take_one {cs : List Value} {k : Nat} {v : Value} (h : (cs.drop k).take 1 = [v]) : cs[k]? = some v := by
  have h1 : ((cs.drop k).take 1)[0]? = some v := by rw [h]; rfl
  rw [List.getElem?_take_of_lt (by omega), List.getElem?_drop, Nat.add_zero] at h1
  exact h1

section
variable {H : Type} {enc : TypeId × Value → H} {W : World}
theorem slice_is {P : Program} {t e : TypeId} {fuel : Nat} {cs : List Value} {x : DataW H × List MemPlace} (ht : P.underlying t = some (.slice e)) (h : DataW.trod enc P W 0 (fun _ => true) true fuel t cs = some x) :
    ∃ a n c, cs = [.slice a n c] ∧ n ≤ c ∧ c ≤ maxLen := by
  rcases Go.Deep.open_slice ht h with ⟨h0, _⟩ | ⟨a', len', cap', m, n, Dd, Pl, h0, _, hl, hm, hmm, _, hcell⟩
  · exact ⟨none, 0, 0, h0, Nat.le_refl _, by simp⟩
  · exact ⟨some a', len', cap', h0, hl, hm⟩

set_option maxRecDepth 100000 in
theorem open_ev {r0 : Reach} {b0 : Nat} {v : Value} {d : DataW H} {ps : List MemPlace} (hval : Value.okWide Tryz.prog W r0 b0 24 v) (h : DataW.Trod enc Tryz.prog W 0 (fun _ => true) true 24 v d ps) :
    ∃ (E : Array Value) (kd n : Int) (aB : Option Addr) (nB cB : Nat), v = .agg E ∧ E.size = 4 ∧ E[0]? = some (.int .u8 kd) ∧ E[2]? = some (.int .i64 n) ∧ E[3]? = some (.slice aB nB cB) := by
  obtain ⟨C, rfl, _⟩ := okWide_struct Tryz.underlying24 hval
  obtain ⟨fuel, hf⟩ := h
  obtain ⟨xs, n, _, _, hl, hxl, hx⟩ := DataW.trod_struct Tryz.underlying24 hf
  have hl' : C.toList.length = 4 := hl.trans (by kernel_rfl)
  have hxl' : xs.length = 4 := hxl
  have c0 : Tryz.prog.cellsOf 5 = 1 := by kernel_rfl
  have c2 : Tryz.prog.cellsOf 3 = 1 := by kernel_rfl
  have c3 : Tryz.prog.cellsOf 22 = 1 := by kernel_rfl
  have q0 : DataW.trod enc Tryz.prog W 0 (fun _ => true) true n 5 ((C.toList.drop 0).take (Tryz.prog.cellsOf 5)) = xs[0]? := hx 0 _ rfl
  have q2 : DataW.trod enc Tryz.prog W 0 (fun _ => true) true n 3 ((C.toList.drop 2).take (Tryz.prog.cellsOf 3)) = xs[2]? := hx 2 _ rfl
  have q3 : DataW.trod enc Tryz.prog W 0 (fun _ => true) true n 22 ((C.toList.drop 3).take (Tryz.prog.cellsOf 22)) = xs[3]? := hx 3 _ rfl
  rw [c0, List.getElem?_eq_getElem (by omega)] at q0
  rw [c2, List.getElem?_eq_getElem (by omega)] at q2
  rw [c3, List.getElem?_eq_getElem (by omega)] at q3
  obtain ⟨kd, hk, _⟩ := DataW.trod_int Tryz.underlying5 q0
  obtain ⟨m, hm, _⟩ := DataW.trod_int Tryz.underlying3 q2
  obtain ⟨aB, nB, cB, hB, _, _⟩ := slice_is Tryz.underlying22 q3
  refine ⟨C, kd, m, aB, nB, cB, rfl, by simpa using hl', ?_, ?_, ?_⟩
  · simpa using take_one hk
  · simpa using take_one hm
  · simpa using take_one hB
end
end Go.Proofs.YtlpfepniabdpjabGreat
