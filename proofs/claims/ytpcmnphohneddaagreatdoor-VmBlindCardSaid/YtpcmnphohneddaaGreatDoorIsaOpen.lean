/- Parameters of the laws on instructions, opened. -/
import Derived.Test.YtpcmnphohneddaaGreatDoorCard
import Derived.Test.YtpcmnphohneddaaGreatDoorIsaEq
namespace Go.Proofs.YtpcmnphohneddaaGreatDoor
open Go.ChangeShapes Go.WideShapes Go.ChangeAt Go.RowKit
set_option linter.unusedVariables false

theorem one_of_take {cs : List Value} {k : Nat} {v : Value} (h : (cs.drop k).take 1 = [v]) : cs[k]? = some v := by
  have h1 : ((cs.drop k).take 1)[0]? = some v := by rw [h]; rfl
  rw [List.getElem?_take_of_lt (by omega), List.getElem?_drop, Nat.add_zero] at h1
  exact h1

section
variable {H : Type} {enc : TypeId × Value → H} {W : World} {base : Nat} {sp : Nat → Bool} {hd : Bool}

theorem u8_nat {k : Int} (h : (Lit.int .u8 k).wf = true) : ∃ n : Nat, k = n ∧ n < 256 := by
  obtain ⟨h1, h2⟩ := bounds_u8 h
  exact ⟨k.toNat, by omega, by omega⟩
set_option maxRecDepth 100000 in
/-- a byte -/
theorem open_u8 {r0 : Reach} {b0 : Nat} {v : Value} {d : DataW H} {ps : List MemPlace} (hval : Value.okWide Tryz.prog W r0 b0 5 v) (h : DataW.Trod enc Tryz.prog W base sp hd 5 v d ps) : ∃ n : Nat, v = .int .u8 n ∧ n < 256 := by
  obtain ⟨k, rfl, _, _, hw⟩ := open_int Tryz.underlying5 hval h
  obtain ⟨n, rfl, hn⟩ := u8_nat hw
  exact ⟨n, rfl, hn⟩
set_option maxRecDepth 100000 in
theorem open_i64 {r0 : Reach} {b0 : Nat} {v : Value} {d : DataW H} {ps : List MemPlace} (hval : Value.okWide Tryz.prog W r0 b0 3 v) (h : DataW.Trod enc Tryz.prog W base sp hd 3 v d ps) : ∃ n : Int, v = .int .i64 n ∧ -9223372036854775808 ≤ n ∧ n ≤ 9223372036854775807 := by
  obtain ⟨k, rfl, _, _, hw⟩ := open_int Tryz.underlying3 hval h
  exact ⟨k, rfl, _root_.Go.bounds_i64 hw⟩
set_option maxRecDepth 100000 in
theorem open_str {r0 : Reach} {b0 : Nat} {v : Value} {d : DataW H} {ps : List MemPlace} (hval : Value.okWide Tryz.prog W r0 b0 9 v) (h : DataW.Trod enc Tryz.prog W base sp hd 9 v d ps) : ∃ l : List UInt8, v = .string ⟨l.toArray⟩ ∧ l.length ≤ maxLen := by
  obtain ⟨s, rfl, _, _, hs⟩ := Go.ChangeMaps.open_string Tryz.underlying9 hval h
  refine ⟨s.data.toList, ?_, ?_⟩
  · simp
  · have e : s.size = s.data.size := rfl
    rw [Array.length_toList]; omega

set_option maxRecDepth 100000 in
theorem four_cells {fuel : Nat} {cs : List Value} {x : DataW H × List MemPlace} (h : DataW.trod enc Tryz.prog W base sp hd fuel 41 cs = some x) : ∃ p q r s : Nat, cs = [.int .u8 p, .int .u8 q, .int .u8 r, .int .u8 s] ∧ Four (p, q, r, s) := by
  obtain ⟨xs, m, _, _, hl, hxl, hx⟩ := DataW.trod_array Tryz.underlying41 h
  have c4 : Tryz.prog.cellsOf 41 = 4 := by kernel_rfl
  have c1 : Tryz.prog.cellsOf 5 = 1 := by kernel_rfl
  rw [c4] at hl
  have each : ∀ i, i < 4 → ∃ b : Nat, cs[i]? = some (.int .u8 b) ∧ b < 256 := by
    intro i hi
    have hq := hx i hi
    rw [c1, Nat.mul_one, List.getElem?_eq_getElem (by omega)] at hq
    obtain ⟨k, hk, _, hw⟩ := DataW.trod_int Tryz.underlying5 hq
    obtain ⟨n, rfl, hn⟩ := u8_nat hw
    exact ⟨n, one_of_take hk, hn⟩
  obtain ⟨p, hp, hp'⟩ := each 0 (by omega)
  obtain ⟨q, hq, hq'⟩ := each 1 (by omega)
  obtain ⟨r, hr, hr'⟩ := each 2 (by omega)
  obtain ⟨s, hs, hs'⟩ := each 3 (by omega)
  refine ⟨p, q, r, s, ?_, hp', hq', hr', hs'⟩
  match cs, hl, hp, hq, hr, hs with
  | [a, b, c, d], _, h0, h1, h2, h3 =>
    simp only [List.getElem?_cons_zero, List.getElem?_cons_succ, Option.some.injEq] at h0 h1 h2 h3
    subst h0 h1 h2 h3
    rfl
theorem okWide_array {P : Program} {n : Nat} {e t : TypeId} {r0 : Reach} {b0 : Nat} {v : Value} (ht : P.underlying t = some (.array n e)) (h : Value.okWide P W r0 b0 t v) : ∃ cs, v = .agg cs ∧ cs.size = P.cellsOf t := by
  simp only [Value.okWide, ht] at h
  obtain ⟨cs, h1, h2, _⟩ := h
  exact ⟨cs, h1, h2⟩
set_option maxRecDepth 100000 in
/-- four bytes -/
theorem open_four {r0 : Reach} {b0 : Nat} {v : Value} {d : DataW H} {ps : List MemPlace} (hval : Value.okWide Tryz.prog W r0 b0 41 v) (h : DataW.Trod enc Tryz.prog W base sp hd 41 v d ps) : ∃ p q r s : Nat, v = .agg #[.int .u8 p, .int .u8 q, .int .u8 r, .int .u8 s] ∧ Four (p, q, r, s) := by
  obtain ⟨cs, rfl, _⟩ := okWide_array Tryz.underlying41 hval
  obtain ⟨fuel, hf⟩ := h
  obtain ⟨p, q, r, s, hc, h4⟩ := four_cells hf
  refine ⟨p, q, r, s, ?_, h4⟩
  congr 1
  exact Array.toList_inj.1 hc
end
end Go.Proofs.YtpcmnphohneddaaGreatDoor
