/- A parameter that is a commit record, opened. -/
import Derived.Test.YthhbdejagglgbaaGreatRec
import Derived.Test.YthhbdejagglgbaaGreatOpen
namespace Go.Proofs.YthhbdejagglgbaaGreat
open Go.ChangeShapes Go.WideShapes Go.ChangeAt Go.RowKit
set_option linter.unusedVariables false

theorem one_of_take {cs : List Value} {k : Nat} {v : Value} (h : (cs.drop k).take 1 = [v]) : cs[k]? = some v := by
  have h1 : ((cs.drop k).take 1)[0]? = some v := by rw [h]; rfl
  rw [List.getElem?_take_of_lt (by omega), List.getElem?_drop, Nat.add_zero] at h1
  exact h1

section
variable {H : Type} {enc : TypeId × Value → H} {W : World} {base : Nat} {sp : Nat → Bool} {hd : Bool}

/-- an array of bytes among cells -/
theorem open_u8s {P : Program} {t e : TypeId} {n fuel : Nat} {cs : List Value} {x : DataW H × List MemPlace} (ht : P.underlying t = some (.array n e)) (he : P.underlying e = some (.int .u8)) (hc : P.cellsOf e = 1) (hn : P.cellsOf t = n)
    (h : DataW.trod enc P W base sp hd fuel t cs = some x) : ∃ l : List UInt8, cs = l.map bv ∧ l.length = n := by
  obtain ⟨xs, m, _, _, hl, hxl, hx⟩ := DataW.trod_array ht h
  rw [hn] at hl
  have each : ∀ i, i < n → ∃ b : UInt8, cs[i]? = some (bv b) := by
    intro i hi
    have hq := hx i hi
    rw [hc, Nat.mul_one, List.getElem?_eq_getElem (by omega)] at hq
    obtain ⟨k, hk, _, hw⟩ := DataW.trod_int he hq
    obtain ⟨h1, h2⟩ := bounds_u8 hw
    refine ⟨UInt8.ofNat k.toNat, ?_⟩
    rw [one_of_take hk]
    simp only [bv, UInt8.toNat_ofNat']
    congr 2
    omega
  refine ⟨(List.range n).map (fun i => match (cs[i]? : Option Value) with | some (Value.int _ k) => UInt8.ofNat k.toNat | _ => 0), ?_, by simp⟩
  apply List.ext_getElem?
  intro i
  by_cases hi : i < n
  · obtain ⟨b, hb⟩ := each i hi
    rw [hb]
    simp only [List.getElem?_map, List.getElem?_range hi, Option.map_some, hb]
    simp [bv]
  · rw [List.getElem?_eq_none (by omega), List.getElem?_eq_none (by simp; omega)]

/-- what is known of a record that came in -/
def Rec.Ok (r : Rec) : Prop := r.hash.length = 32 ∧ (-9223372036854775808 ≤ r.seqn ∧ r.seqn ≤ 9223372036854775807) ∧ (-9223372036854775808 ≤ r.slot ∧ r.slot ≤ 9223372036854775807) ∧ (-9223372036854775808 ≤ r.len ∧ r.len ≤ 9223372036854775807)

set_option maxRecDepth 100000 in
theorem open_rec_cells {fuel : Nat} {cs : List Value} {x : DataW H × List MemPlace} (h : DataW.trod enc Tryz.prog W base sp hd fuel 25 cs = some x) : ∃ r : Rec, cs = (recA r).toList ∧ r.Ok := by
  obtain ⟨xs, n, _, _, hl, hxl, hx⟩ := DataW.trod_struct Tryz.underlying25 h
  have c36 : Tryz.prog.cellsOf 25 = 36 := by kernel_rfl
  have hl' : cs.length = 36 := by rw [hl, c36]
  have hxl' : xs.length = 5 := hxl
  have q0 : DataW.trod enc Tryz.prog W base sp hd n 3 ((cs.drop 0).take (Tryz.prog.cellsOf 3)) = xs[0]? := hx 0 _ rfl
  have q1 : DataW.trod enc Tryz.prog W base sp hd n 3 ((cs.drop 1).take (Tryz.prog.cellsOf 3)) = xs[1]? := hx 1 _ rfl
  have q2 : DataW.trod enc Tryz.prog W base sp hd n 3 ((cs.drop 2).take (Tryz.prog.cellsOf 3)) = xs[2]? := hx 2 _ rfl
  have q3 : DataW.trod enc Tryz.prog W base sp hd n 4 ((cs.drop 3).take (Tryz.prog.cellsOf 4)) = xs[3]? := hx 3 _ rfl
  have q4 : DataW.trod enc Tryz.prog W base sp hd n 23 ((cs.drop 4).take (Tryz.prog.cellsOf 23)) = xs[4]? := hx 4 _ rfl
  rw [List.getElem?_eq_getElem (by omega)] at q0 q1 q2 q3 q4
  have c1 : Tryz.prog.cellsOf 3 = 1 := by kernel_rfl
  have cb : Tryz.prog.cellsOf 4 = 1 := by kernel_rfl
  have ct : Tryz.prog.cellsOf 23 = 32 := by kernel_rfl
  rw [c1] at q0 q1 q2
  rw [cb] at q3
  rw [ct] at q4
  obtain ⟨a, ha, _, wa⟩ := DataW.trod_int Tryz.underlying3 q0
  obtain ⟨b, hb, _, wb⟩ := DataW.trod_int Tryz.underlying3 q1
  obtain ⟨c, hc, _, wc⟩ := DataW.trod_int Tryz.underlying3 q2
  obtain ⟨d, hd', _⟩ := DataW.trod_bool Tryz.underlying4 q3
  obtain ⟨l, hl4, hl5⟩ := open_u8s Tryz.underlying23 Tryz.underlying5 (by kernel_rfl) (by kernel_rfl) q4
  refine ⟨⟨a, b, c, d, l⟩, ?_, hl5, _root_.Go.bounds_i64 wa, _root_.Go.bounds_i64 wb, _root_.Go.bounds_i64 wc⟩
  rw [recA_list]
  have e0 := one_of_take ha
  have e1 := one_of_take hb
  have e2 := one_of_take hc
  have e3 := one_of_take hd'
  have h4 : cs.drop 4 = l.map bv := by
    rw [← hl4, List.take_of_length_le (by simp; omega)]
  rw [← h4]
  match cs, hl', e0, e1, e2, e3 with
  | w :: x :: y :: z :: r, _, e0, e1, e2, e3 =>
    simp only [List.getElem?_cons_zero, List.getElem?_cons_succ, Option.some.injEq] at e0 e1 e2 e3
    subst e0 e1 e2 e3
    rfl

set_option maxRecDepth 100000 in
/-- a parameter that is a record -/
theorem open_rec {r0 : Reach} {b0 : Nat} {v : Value} {d : DataW H} {ps : List MemPlace} (hval : Value.okWide Tryz.prog W r0 b0 25 v) (h : DataW.Trod enc Tryz.prog W base sp hd 25 v d ps) : ∃ r : Rec, v = .agg (recA r) ∧ r.Ok := by
  obtain ⟨cs, rfl, _⟩ := okWide_struct Tryz.underlying25 hval
  obtain ⟨fuel, hf⟩ := h
  obtain ⟨r, hr, ho⟩ := open_rec_cells hf
  refine ⟨r, ?_, ho⟩
  congr 1
  exact Array.toList_inj.1 hr
end
end Go.Proofs.YthhbdejagglgbaaGreat
