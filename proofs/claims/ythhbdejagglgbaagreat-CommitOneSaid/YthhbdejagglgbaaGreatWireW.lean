/- Walks of package wire, writers: Byte, Flag, Tag. -/
import Derived.Test.YthhbdejagglgbaaGreatWriter
namespace Go.Proofs.YthhbdejagglgbaaGreat
open Go.RowKit
set_option linter.unusedVariables false

/-- one more piece -/
theorem add_one (B p b c : Nat) (l m : List UInt8) (A : Option Addr) (cm : Nat) (t : TypeId) (w w1 : World) (hW : IsW B w p l 0) (hg : Chg Non w w1) (hr : Rd w1 A m) (h0 : 0 < m.length) (hroom : l.length + m.length ≤ 65536) :
    Calls Tryz.prog 95 #[.pointer (some ⟨p, 0, none⟩), .slice (some ⟨w1.heap.size, 0, none⟩) 1 1] (w1.alloc (.cells #[.slice A m.length cm] t)) fun e w' => e = .returned (.pointer (some ⟨p, 0, none⟩)) ∧ IsW B w' p (l ++ m) 0 ∧ Below B w w' := by
  have hpB := hW.1
  obtain ⟨v0, hb0, _⟩ := hW.2
  have hBs : B ≤ w.heap.size := by have := (Array.getElem?_eq_some_iff.1 hb0).1; omega
  have hW1 : IsW B (w1.alloc (.cells #[.slice A m.length cm] t)) p l 0 := isW_chg hW (hg.alloc _)
  have hP1 := parts_new w1 t [(A, m, cm)] (by simpa using hr)
  have hcat : cat [(A, m, cm)] = m := by simp [cat]
  refine (add_room B p w1.heap.size 1 1 l [(A, m, cm)] _ hW1 hP1 rfl (by omega) (by rw [hcat]; omega) (by rw [hcat]; omega) (by omega)).mono ?_
  rw [hcat]
  rintro e w2 ⟨rfl, hW2, hB2⟩
  exact ⟨rfl, hW2, ((hg.alloc _).below (fun _ e => e.elim) hBs).trans hB2⟩

set_option maxRecDepth 100000 in
set_option maxHeartbeats 2000000 in
theorem WByte_room (B p : Nat) (l : List UInt8) (x : UInt8) (w : World) (hW : IsW B w p l 0) (hroom : l.length + 1 ≤ 65536) :
    Calls Tryz.prog 58 #[.pointer (some ⟨p, 0, none⟩), .int .u8 (x.toNat : Int)] w fun e w' => e = .returned (.pointer (some ⟨p, 0, none⟩)) ∧ IsW B w' p (l ++ [x]) 0 ∧ Below B w w' := by
  have hr : Rd (w.alloc (.cells #[.int .u8 (x.toNat : Int)] 5)) (some ⟨w.heap.size, 0, none⟩) [x] := (own_new w 5 #[.int .u8 (x.toNat : Int)] [x] rfl).rd
  have hA := add_one B p 0 0 l [x] (some ⟨w.heap.size, 0, none⟩) 1 29 w _ hW ((Chg.refl _ _).alloc _) hr (by simp) (by simpa using hroom)
  rw [show (w.alloc (.cells #[.int .u8 (x.toNat : Int)] 5)).heap.size = w.heap.size + 1 by simp] at hA
  have HA := Lib.hid hA
  clear hA hr hW hroom
  go_enter Tryz.func58, Tryz.ntmps58
  go_wp2_with fail
  refine HA.out.mono ?_
  rintro e w' ⟨rfl, h⟩
  go_wp2
  go_ret
  exact ⟨rfl, h⟩

/-- a flag's byte -/
def flagB (b : Bool) : UInt8 := if b then 1 else 0

set_option maxRecDepth 100000 in
set_option maxHeartbeats 2000000 in
theorem WFlag_room (B p : Nat) (l : List UInt8) (b : Bool) (w : World) (hW : IsW B w p l 0) (hroom : l.length + 1 ≤ 65536) :
    Calls Tryz.prog 59 #[.pointer (some ⟨p, 0, none⟩), .bool b] w fun e w' => e = .returned (.pointer (some ⟨p, 0, none⟩)) ∧ IsW B w' p (l ++ [flagB b]) 0 ∧ Below B w w' := by
  have HA := Lib.hid (WByte_room B p l (flagB b) w hW hroom)
  clear hW hroom
  cases b
  all_goals
    go_enter Tryz.func59, Tryz.ntmps59
    go_wp2_with fail
    refine HA.out.mono ?_
    rintro e w' ⟨rfl, h⟩
    go_wp2
    go_ret
    exact ⟨rfl, h⟩

set_option maxRecDepth 100000 in
set_option maxHeartbeats 2000000 in
theorem WTag_room (B p : Nat) (l : List UInt8) (h : List UInt8) (w : World) (hh : h.length = 32) (hW : IsW B w p l 0) (hroom : l.length + 32 ≤ 65536) :
    Calls Tryz.prog 60 #[.pointer (some ⟨p, 0, none⟩), .agg (h.map bv).toArray] w fun e w' => e = .returned (.pointer (some ⟨p, 0, none⟩)) ∧ IsW B w' p (l ++ h) 0 ∧ Below B w w' := by
  have hr : Rd (w.alloc (.cells (h.map bv).toArray 23)) (some ⟨w.heap.size, 0, none⟩) h := (own_new w 23 (h.map bv).toArray h rfl).rd
  have hA := add_one B p 0 0 l h (some ⟨w.heap.size, 0, none⟩) 32 29 w _ hW ((Chg.refl _ _).alloc _) hr (by omega) (by omega)
  rw [show (w.alloc (.cells (h.map bv).toArray 23)).heap.size = w.heap.size + 1 by simp, hh] at hA
  have HA := Lib.hid hA
  clear hA hr hW hroom
  go_enter Tryz.func60, Tryz.ntmps60
  go_wp2_with fail
  refine HA.out.mono ?_
  rintro e w' ⟨rfl, h⟩
  go_wp2
  go_ret
  exact ⟨rfl, h⟩
end Go.Proofs.YthhbdejagglgbaaGreat
