/- Parameters opened. (Written by wip/merge_vo.py.) -/
import Derived.Test.YtpcmnphohneddaaGreatDoorCard
import Derived.Test.YtpcmnphohneddaaGreatDoorIsaEq
import Derived.Test.YtpcmnphohneddaaGreatDoorVp2
namespace Go.Proofs.YtpcmnphohneddaaGreatDoor
open Go.ChangeShapes Go.WideShapes Go.ChangeAt Go.RowKit
set_option linter.unusedVariables false

theorem one_of_take {cs : List Value} {k : Nat} {v : Value} (h : (cs.drop k).take 1 = [v]) : cs[k]? = some v := by
  have h1 : ((cs.drop k).take 1)[0]? = some v := by rw [h]; rfl
  rw [List.getElem?_take_of_lt (by omega), List.getElem?_drop, Nat.add_zero] at h1
  exact h1

section
variable {H : Type} {enc : TypeId × Value → H} {W : World} {base : Nat} {sp : Nat → Bool} {hd : Bool}

theorem u8_nat {k : Int} (h : (Lit.int .u8 k).wf = true) : ∃ n : Nat, k = n ∧ n < 256 := by
  obtain ⟨h1, h2⟩ := bounds_u8 h
  exact ⟨k.toNat, by omega, by omega⟩
set_option maxRecDepth 100000 in
/-- a byte -/
theorem open_u8 {r0 : Reach} {b0 : Nat} {v : Value} {d : DataW H} {ps : List MemPlace} (hval : Value.okWide Tryz.prog W r0 b0 5 v) (h : DataW.Trod enc Tryz.prog W base sp hd 5 v d ps) : ∃ n : Nat, v = .int .u8 n ∧ n < 256 := by
  obtain ⟨k, rfl, _, _, hw⟩ := open_int Tryz.underlying5 hval h
  obtain ⟨n, rfl, hn⟩ := u8_nat hw
  exact ⟨n, rfl, hn⟩
set_option maxRecDepth 100000 in
theorem open_i64 {r0 : Reach} {b0 : Nat} {v : Value} {d : DataW H} {ps : List MemPlace} (hval : Value.okWide Tryz.prog W r0 b0 3 v) (h : DataW.Trod enc Tryz.prog W base sp hd 3 v d ps) : ∃ n : Int, v = .int .i64 n ∧ -9223372036854775808 ≤ n ∧ n ≤ 9223372036854775807 := by
  obtain ⟨k, rfl, _, _, hw⟩ := open_int Tryz.underlying3 hval h
  exact ⟨k, rfl, _root_.Go.bounds_i64 hw⟩
set_option maxRecDepth 100000 in
theorem open_str {r0 : Reach} {b0 : Nat} {v : Value} {d : DataW H} {ps : List MemPlace} (hval : Value.okWide Tryz.prog W r0 b0 9 v) (h : DataW.Trod enc Tryz.prog W base sp hd 9 v d ps) : ∃ l : List UInt8, v = .string ⟨l.toArray⟩ ∧ l.length ≤ maxLen := by
  obtain ⟨s, rfl, _, _, hs⟩ := Go.ChangeMaps.open_string Tryz.underlying9 hval h
  refine ⟨s.data.toList, ?_, ?_⟩
  · simp
  · have e : s.size = s.data.size := rfl
    rw [Array.length_toList]; omega

set_option maxRecDepth 100000 in
theorem four_cells {fuel : Nat} {cs : List Value} {x : DataW H × List MemPlace} (h : DataW.trod enc Tryz.prog W base sp hd fuel 41 cs = some x) : ∃ p q r s : Nat, cs = [.int .u8 p, .int .u8 q, .int .u8 r, .int .u8 s] ∧ Four (p, q, r, s) := by
  obtain ⟨xs, m, _, _, hl, hxl, hx⟩ := DataW.trod_array Tryz.underlying41 h
  have c4 : Tryz.prog.cellsOf 41 = 4 := by kernel_rfl
  have c1 : Tryz.prog.cellsOf 5 = 1 := by kernel_rfl
  rw [c4] at hl
  have each : ∀ i, i < 4 → ∃ b : Nat, cs[i]? = some (.int .u8 b) ∧ b < 256 := by
    intro i hi
    have hq := hx i hi
    rw [c1, Nat.mul_one, List.getElem?_eq_getElem (by omega)] at hq
    obtain ⟨k, hk, _, hw⟩ := DataW.trod_int Tryz.underlying5 hq
    obtain ⟨n, rfl, hn⟩ := u8_nat hw
    exact ⟨n, one_of_take hk, hn⟩
  obtain ⟨p, hp, hp'⟩ := each 0 (by omega)
  obtain ⟨q, hq, hq'⟩ := each 1 (by omega)
  obtain ⟨r, hr, hr'⟩ := each 2 (by omega)
  obtain ⟨s, hs, hs'⟩ := each 3 (by omega)
  refine ⟨p, q, r, s, ?_, hp', hq', hr', hs'⟩
  match cs, hl, hp, hq, hr, hs with
  | [a, b, c, d], _, h0, h1, h2, h3 =>
    simp only [List.getElem?_cons_zero, List.getElem?_cons_succ, Option.some.injEq] at h0 h1 h2 h3
    subst h0 h1 h2 h3
    rfl
theorem okWide_array {P : Program} {n : Nat} {e t : TypeId} {r0 : Reach} {b0 : Nat} {v : Value} (ht : P.underlying t = some (.array n e)) (h : Value.okWide P W r0 b0 t v) : ∃ cs, v = .agg cs ∧ cs.size = P.cellsOf t := by
  simp only [Value.okWide, ht] at h
  obtain ⟨cs, h1, h2, _⟩ := h
  exact ⟨cs, h1, h2⟩
set_option maxRecDepth 100000 in
/-- four bytes -/
theorem open_four {r0 : Reach} {b0 : Nat} {v : Value} {d : DataW H} {ps : List MemPlace} (hval : Value.okWide Tryz.prog W r0 b0 41 v) (h : DataW.Trod enc Tryz.prog W base sp hd 41 v d ps) : ∃ p q r s : Nat, v = .agg #[.int .u8 p, .int .u8 q, .int .u8 r, .int .u8 s] ∧ Four (p, q, r, s) := by
  obtain ⟨cs, rfl, _⟩ := okWide_array Tryz.underlying41 hval
  obtain ⟨fuel, hf⟩ := h
  obtain ⟨p, q, r, s, hc, h4⟩ := four_cells hf
  refine ⟨p, q, r, s, ?_, h4⟩
  congr 1
  exact Array.toList_inj.1 hc
end

section
variable {H : Type} {enc : TypeId × Value → H} {W : World}
theorem bytes_cells {fuel : Nat} {cs : List Value} {x : DataW H × List MemPlace} (hf : DataW.trod enc Tryz.prog W 0 (fun _ => true) true fuel 24 cs = some x) :
    ∃ (B : Option Addr) (l : List UInt8) (c : Nat), cs = [.slice B l.length c] ∧ Rd W B l ∧ l.length ≤ c ∧ c ≤ maxLen := by
  rcases open_ints Tryz.underlying24 Tryz.underlying5 (by kernel_rfl) hf with ⟨h0, _⟩ | ⟨a', len', cap', zs, h0, _, hl, hm, hzl, _, hcell, hwf⟩
  · exact ⟨none, [], 0, h0, Rd.nil _ _, Nat.le_refl _, by simp⟩
  · simp only [if_true] at hzl
    have hnum : ∀ n ∈ zs, ((UInt8.ofNat n.toNat).toNat : Int) = n := by
      intro n hn
      obtain ⟨h1, h2⟩ := bounds_u8 (hwf n hn)
      simp only [UInt8.toNat_ofNat']
      omega
    have hlen : ((zs.take len').map (fun n => UInt8.ofNat n.toNat)).length = len' := by simp [hzl, Nat.min_eq_left hl]
    refine ⟨some a', (zs.take len').map (fun n => UInt8.ofNat n.toNat), cap', by rw [hlen]; exact h0, ?_, by rw [hlen]; exact hl, hm⟩
    intro i x hx
    rw [List.getElem?_map] at hx
    obtain ⟨n, hn, rfl⟩ := Option.map_eq_some_iff.1 hx
    have hi : i < (zs.take len').length := (List.getElem?_eq_some_iff.1 hn).1
    rw [List.length_take] at hi
    have hn' : zs[i]? = some n := by rw [← hn, List.getElem?_take_of_lt (by omega)]
    obtain ⟨b, off, rfl, hc2⟩ := ints_at hcell (by omega)
    refine ⟨b, off, rfl, ?_⟩
    rw [hc2 i (by omega), List.getD, hn', Option.getD_some, hnum n (List.mem_of_getElem? hn')]
theorem u32_nat {k : Int} (h : (Lit.int .u32 k).wf = true) : ∃ n : Nat, k = n ∧ n < 4294967296 := by
  obtain ⟨h1, h2⟩ := bounds_u32 h
  exact ⟨k.toNat, by omega, by omega⟩
set_option maxRecDepth 100000 in
theorem regs_cells {fuel : Nat} {cs : List Value} {x : DataW H × List MemPlace} (h : DataW.trod enc Tryz.prog W 0 (fun _ => true) true fuel 23 cs = some x) : ∀ i, i < 8 → ∃ b : Nat, cs[i]? = some (.int .u32 b) ∧ b < 4294967296 := by
  obtain ⟨xs, m, _, _, hl, hxl, hx⟩ := DataW.trod_array Tryz.underlying23 h
  have c8 : Tryz.prog.cellsOf 23 = 8 := by kernel_rfl
  have c1 : Tryz.prog.cellsOf 22 = 1 := by kernel_rfl
  rw [c8] at hl
  intro i hi
  have hq := hx i hi
  rw [c1, Nat.mul_one, List.getElem?_eq_getElem (by omega)] at hq
  obtain ⟨k, hk, _, hw⟩ := DataW.trod_int Tryz.underlying22 hq
  obtain ⟨n, rfl, hn⟩ := u32_nat hw
  exact ⟨n, one_of_take hk, hn⟩
set_option maxRecDepth 100000 in
set_option maxHeartbeats 2000000 in
theorem part_cells {fuel : Nat} {cs : List Value} {x : DataW H × List MemPlace} (h : DataW.trod enc Tryz.prog W 0 (fun _ => true) true fuel 26 cs = some x) :
    ∃ (p : Pt) (B : Option Addr) (c : Nat), cs = partL p (.slice B p.mem.length c) ∧ p.Bd ∧ Rd W B p.mem ∧ p.mem.length ≤ c ∧ c ≤ maxLen := by
  obtain ⟨xs, m, _, _, hl, hxl, hx⟩ := DataW.trod_struct Tryz.underlying26 h
  have c14 : Tryz.prog.cellsOf 26 = 14 := by kernel_rfl
  have hl' : cs.length = 14 := by rw [hl, c14]
  have hxl' : xs.length = 7 := hxl
  have q0 : DataW.trod enc Tryz.prog W 0 (fun _ => true) true m 3 ((cs.drop 0).take (Tryz.prog.cellsOf 3)) = xs[0]? := hx 0 _ rfl
  have q1 : DataW.trod enc Tryz.prog W 0 (fun _ => true) true m 3 ((cs.drop 1).take (Tryz.prog.cellsOf 3)) = xs[1]? := hx 1 _ rfl
  have q2 : DataW.trod enc Tryz.prog W 0 (fun _ => true) true m 4 ((cs.drop 2).take (Tryz.prog.cellsOf 4)) = xs[2]? := hx 2 _ rfl
  have q3 : DataW.trod enc Tryz.prog W 0 (fun _ => true) true m 23 ((cs.drop 3).take (Tryz.prog.cellsOf 23)) = xs[3]? := hx 3 _ rfl
  have q4 : DataW.trod enc Tryz.prog W 0 (fun _ => true) true m 22 ((cs.drop 11).take (Tryz.prog.cellsOf 22)) = xs[4]? := hx 4 _ rfl
  have q5 : DataW.trod enc Tryz.prog W 0 (fun _ => true) true m 5 ((cs.drop 12).take (Tryz.prog.cellsOf 5)) = xs[5]? := hx 5 _ rfl
  have q6 : DataW.trod enc Tryz.prog W 0 (fun _ => true) true m 24 ((cs.drop 13).take (Tryz.prog.cellsOf 24)) = xs[6]? := hx 6 _ rfl
  rw [List.getElem?_eq_getElem (by omega)] at q0 q1 q2 q3 q4 q5 q6
  have k1 : Tryz.prog.cellsOf 3 = 1 := by kernel_rfl
  have k2 : Tryz.prog.cellsOf 4 = 1 := by kernel_rfl
  have k3 : Tryz.prog.cellsOf 23 = 8 := by kernel_rfl
  have k4 : Tryz.prog.cellsOf 22 = 1 := by kernel_rfl
  have k5 : Tryz.prog.cellsOf 5 = 1 := by kernel_rfl
  have k6 : Tryz.prog.cellsOf 24 = 1 := by kernel_rfl
  rw [k1] at q0 q1
  rw [k2] at q2
  rw [k3] at q3
  rw [k4] at q4
  rw [k5] at q5
  rw [k6] at q6
  obtain ⟨i0, h0, _, w0⟩ := DataW.trod_int Tryz.underlying3 q0
  obtain ⟨i1, h1, _, w1⟩ := DataW.trod_int Tryz.underlying3 q1
  obtain ⟨b2, h2, _⟩ := DataW.trod_bool Tryz.underlying4 q2
  have hreg := regs_cells q3
  obtain ⟨i4, h4, _, w4⟩ := DataW.trod_int Tryz.underlying22 q4
  obtain ⟨i5, h5, _, w5⟩ := DataW.trod_int Tryz.underlying5 q5
  obtain ⟨B, l, c, h6, hrd, hlc, hcm⟩ := bytes_cells q6
  have bi0 := _root_.Go.bounds_i64 w0
  have bi1 := _root_.Go.bounds_i64 w1
  obtain ⟨pc, rfl, bpc⟩ := u32_nat w4
  obtain ⟨st, rfl, bst⟩ := u8_nat w5
  have g0 := one_of_take h0
  have g1 := one_of_take h1
  have g2 := one_of_take h2
  have g4 := one_of_take h4
  have g5 := one_of_take h5
  have g6 := one_of_take h6
  have hr : ∀ i, i < 8 → ∃ b : Nat, cs[3 + i]? = some (.int .u32 b) ∧ b < 4294967296 := by
    intro i hi
    obtain ⟨b, hb, hb2⟩ := hreg i hi
    rw [List.getElem?_take_of_lt hi, List.getElem?_drop] at hb
    exact ⟨b, hb, hb2⟩
  obtain ⟨r0, e0, f0⟩ := hr 0 (by omega)
  obtain ⟨r1, e1, f1⟩ := hr 1 (by omega)
  obtain ⟨r2, e2, f2⟩ := hr 2 (by omega)
  obtain ⟨r3, e3, f3⟩ := hr 3 (by omega)
  obtain ⟨r4, e4, f4⟩ := hr 4 (by omega)
  obtain ⟨r5, e5, f5⟩ := hr 5 (by omega)
  obtain ⟨r6, e6, f6⟩ := hr 6 (by omega)
  obtain ⟨r7, e7, f7⟩ := hr 7 (by omega)
  refine ⟨⟨i0, i1, b2, [r0, r1, r2, r3, r4, r5, r6, r7], pc, st, l⟩, B, c, ?_, ⟨rfl, ?_, bpc, bst, bi0, bi1⟩, hrd, hlc, hcm⟩
  · clear q0 q1 q2 q3 q4 q5 q6 hx hreg hr h0 h1 h2 h4 h5 h6 h
    match cs, hl', g0, g1, g2, g4, g5, g6, e0, e1, e2, e3, e4, e5, e6, e7 with
    | [v0, v1, v2, v3, v4, v5, v6, v7, v8, v9, v10, v11, v12, v13], _, g0, g1, g2, g4, g5, g6, e0, e1, e2, e3, e4, e5, e6, e7 =>
      simp only [List.getElem?_cons_zero, List.getElem?_cons_succ, Option.some.injEq, Nat.reduceAdd] at g0 g1 g2 g4 g5 g6 e0 e1 e2 e3 e4 e5 e6 e7
      subst g0 g1 g2 g4 g5 g6 e0 e1 e2 e3 e4 e5 e6 e7
      rfl
  · intro i
    show [r0, r1, r2, r3, r4, r5, r6, r7].getD i 0 < 4294967296
    match i with
    | 0 => exact f0
    | 1 => exact f1
    | 2 => exact f2
    | 3 => exact f3
    | 4 => exact f4
    | 5 => exact f5
    | 6 => exact f6
    | 7 => exact f7
    | n + 8 => simp
set_option maxRecDepth 100000 in
theorem open_part {r0 : Reach} {b0 : Nat} {v : Value} {d : DataW H} {ps : List MemPlace} (hval : Value.okWide Tryz.prog W r0 b0 26 v) (h : DataW.Trod enc Tryz.prog W 0 (fun _ => true) true 26 v d ps) :
    ∃ (p : Pt) (B : Option Addr) (c : Nat), v = .agg (partC p (.slice B p.mem.length c)) ∧ p.Bd ∧ Rd W B p.mem ∧ p.mem.length ≤ c ∧ c ≤ maxLen := by
  obtain ⟨cs, rfl, _⟩ := okWide_struct Tryz.underlying26 hval
  obtain ⟨fuel, hf⟩ := h
  obtain ⟨p, B, c, hr, ho⟩ := part_cells hf
  refine ⟨p, B, c, ?_, ho⟩
  congr 1
  exact Array.toList_inj.1 hr
end
end Go.Proofs.YtpcmnphohneddaaGreatDoor
