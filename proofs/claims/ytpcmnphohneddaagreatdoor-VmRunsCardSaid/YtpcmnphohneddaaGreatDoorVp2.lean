/- A partition in memory; package vm: its small functions, loads, stores, jumps, Copy, ops. (Written by wip/merge_vm.py.) -/
import Derived.Test.YtpcmnphohneddaaGreatDoorIsa12
import Derived.Test.YtpcmnphohneddaaGreatDoorVmP
import Derived.Test.YtpcmnphohneddaaGreatDoorVp1
import Derived.Laws.BitsAllLaws
import Derived.StillTailTactics
namespace Go.Proofs.YtpcmnphohneddaaGreatDoor
open Go.RowKit
set_option linter.unusedVariables false

def partL (p : Pt) (m : Value) : List Value := .int .i64 p.id :: .int .i64 p.size :: .bool p.keep :: ((p.r.map fun n : Nat => Value.int .u32 n) ++ [.int .u32 p.pc, .int .u8 p.st, m])
def partC (p : Pt) (m : Value) : Array Value := (partL p m).toArray
theorem partC_size {p : Pt} (h : p.r.length = 8) (m : Value) : (partC p m).size = 14 := by simp [partC, partL, h]
theorem partC_reg {p : Pt} (h : p.r.length = 8) (m : Value) (a : Nat) (ha : a < 8) : (partC p m)[3 + a]? = some (.int .u32 (p.g a : Nat)) := by
  simp only [partC, partL, List.getElem?_toArray]
  rw [show 3 + a = a + 1 + 1 + 1 by omega, List.getElem?_cons_succ, List.getElem?_cons_succ, List.getElem?_cons_succ, List.getElem?_append_left (by simp [h]; omega), List.getElem?_map, List.getElem?_eq_getElem (by omega)]
  simp only [Option.map_some, Pt.g]
  rw [List.getD_eq_getElem?_getD, List.getElem?_eq_getElem (by omega)]
  rfl
theorem partC_end {p : Pt} (h : p.r.length = 8) (m : Value) (j : Nat) (hj : j < 3) : (partC p m)[11 + j]? = [Value.int .u32 (p.pc : Nat), .int .u8 (p.st : Nat), m][j]? := by
  simp only [partC, partL, List.getElem?_toArray]
  rw [show 11 + j = (8 + j) + 1 + 1 + 1 by omega, List.getElem?_cons_succ, List.getElem?_cons_succ, List.getElem?_cons_succ, List.getElem?_append_right (by simp [h])]
  congr 1
  simp [h]
theorem part_setR {p : Pt} (h : p.r.length = 8) (m : Value) (a v : Nat) (ha : a < 8) : (partC p m).setIfInBounds (3 + a) (.int .u32 (v : Nat)) = partC (p.set a v) m := by
  simp only [partC, partL, List.setIfInBounds_toArray, Pt.set]
  congr 1
  rw [show 3 + a = a + 1 + 1 + 1 by omega, List.set_cons_succ, List.set_cons_succ, List.set_cons_succ, List.set_append_left _ _ (by simp [h]; omega), List.map_set]
theorem part_set11 {p : Pt} (h : p.r.length = 8) (m : Value) (v : Nat) : (partC p m).setIfInBounds 11 (.int .u32 (v : Nat)) = partC { p with pc := v } m := by
  simp only [partC, partL, List.setIfInBounds_toArray]
  congr 1
  rw [List.set_cons_succ, List.set_cons_succ, List.set_cons_succ, List.set_append_right _ _ (by simp [h])]
  simp [h]
theorem part_set12 {p : Pt} (h : p.r.length = 8) (m : Value) (v : Nat) : (partC p m).setIfInBounds 12 (.int .u8 (v : Nat)) = partC { p with st := v } m := by
  simp only [partC, partL, List.setIfInBounds_toArray]
  congr 1
  rw [List.set_cons_succ, List.set_cons_succ, List.set_cons_succ, List.set_append_right _ _ (by simp [h])]
  simp [h]
theorem part_set13 {p : Pt} (h : p.r.length = 8) (m m' : Value) : (partC p m).setIfInBounds 13 m' = partC p m' := by
  simp only [partC, partL, List.setIfInBounds_toArray]
  congr 1
  rw [List.set_cons_succ, List.set_cons_succ, List.set_cons_succ, List.set_append_right _ _ (by simp [h])]
  simp [h]
/-- a partition lies at b -/
def PartAt (W : World) (b : Nat) (p : Pt) (m : Value) : Prop := W.heap[b]? = some (.cells (partC p m) 26 (0, 0))
structure PartB (W : World) (b : Nat) (p : Pt) (m : Value) : Prop where
  out : PartAt W b p m
  len : p.r.length = 8
theorem PartB.lt {W : World} {b : Nat} {p : Pt} {m : Value} (h : PartB W b p m) : b < W.heap.size := (Array.getElem?_eq_some_iff.1 h.out).1
theorem PartB.keep {S : Nat → Prop} {W W' : World} {b : Nat} {p : Pt} {m : Value} (h : PartB W b p m) (hg : Chg S W W') (hn : ¬ S b) : PartB W' b p m := ⟨blockS h.out hg hn, h.len⟩
theorem PartB.non {W W' : World} {b : Nat} {p : Pt} {m : Value} (h : PartB W b p m) (hg : Chg Non W W') : PartB W' b p m := h.keep hg (fun e => e)
theorem PartB.frozen {W : World} {b : Nat} {p : Pt} {m : Value} (h : PartB W b p m) : ∀ i, W.frozen? ⟨b, i, none⟩ = false := by
  intro i
  simp only [World.frozen?]
  rw [show W.heap[b]? = _ from h.out]
  simp
theorem PartB.cells {W : World} {b : Nat} {p : Pt} {m : Value} (h : PartB W b p m) :
    W.cell? ⟨b, 0, none⟩ = some (.int .i64 p.id) ∧ W.cell? ⟨b, 1, none⟩ = some (.int .i64 p.size) ∧ W.cell? ⟨b, 2, none⟩ = some (.bool p.keep) ∧ W.cell? ⟨b, 11, none⟩ = some (.int .u32 (p.pc : Nat)) ∧ W.cell? ⟨b, 12, none⟩ = some (.int .u8 (p.st : Nat)) ∧ W.cell? ⟨b, 13, none⟩ = some m :=
  ⟨row_cell h.out rfl, row_cell h.out rfl, row_cell h.out rfl, row_cell h.out (partC_end h.len m 0 (by omega)), row_cell h.out (partC_end h.len m 1 (by omega)), row_cell h.out (partC_end h.len m 2 (by omega))⟩
theorem PartB.reg {W : World} {b : Nat} {p : Pt} {m : Value} (h : PartB W b p m) (a : Nat) (ha : a < 8) : W.cell? ⟨b, 3 + a, none⟩ = some (.int .u32 (p.g a : Nat)) := row_cell h.out (partC_reg h.len m a ha)
theorem PartB.setReg {W : World} {b : Nat} {p : Pt} {m : Value} (h : PartB W b p m) (a v : Nat) (ha : a < 8) : PartB (W.setCell ⟨b, 3 + a, none⟩ (.int .u32 (v : Nat))) b (p.set a v) m := by
  refine ⟨?_, by simp [Pt.set, h.len]⟩
  have := heap_setCellI (.int .u32 (v : Nat)) (i := 3 + a) h.out
  rw [part_setR h.len m a v ha] at this
  exact this
theorem PartB.setPc {W : World} {b : Nat} {p : Pt} {m : Value} (h : PartB W b p m) (v : Nat) : PartB (W.setCell ⟨b, 11, none⟩ (.int .u32 (v : Nat))) b { p with pc := v } m := by
  refine ⟨?_, h.len⟩
  have := heap_setCellI (.int .u32 (v : Nat)) (i := 11) h.out
  rw [part_set11 h.len m v] at this
  exact this
theorem PartB.setSt {W : World} {b : Nat} {p : Pt} {m : Value} (h : PartB W b p m) (v : Nat) : PartB (W.setCell ⟨b, 12, none⟩ (.int .u8 (v : Nat))) b { p with st := v } m := by
  refine ⟨?_, h.len⟩
  have := heap_setCellI (.int .u8 (v : Nat)) (i := 12) h.out
  rw [part_set12 h.len m v] at this
  exact this
theorem PartB.setMem {W : World} {b : Nat} {p : Pt} {m : Value} (h : PartB W b p m) (v : Value) : PartB (W.setCell ⟨b, 13, none⟩ v) b p v := by
  refine ⟨?_, h.len⟩
  have := heap_setCellI v (i := 13) h.out
  rw [part_set13 h.len m v] at this
  exact this
/-- the memory's list does not lie in the block -/
theorem PartB.setList {W : World} {b : Nat} {p : Pt} {m : Value} (h : PartB W b p m) (l : List UInt8) : PartB W b { p with mem := l } m := ⟨h.out, h.len⟩
theorem info_part : (Tryz.prog.info? 26).map (·.size) = some 14 := by kernel_rfl
theorem setAt (w : World) (b i : Nat) (v : Value) : Chg (fun k => k = b) w (w.setCell ⟨b, i, none⟩ v) := set_at w b i v

set_option maxRecDepth 100000 in
set_option maxHeartbeats 1000000 in
theorem set_ok (b : Nat) (p : Pt) (m : Value) (op a b2 c n : Nat) (w : World) (hp : PartB w b p m) (ha : a < 8) (hn : n < 65536) :
    Calls Tryz.prog 36 #[.pointer (some ⟨b, 0, none⟩), .agg #[.int .u8 op, .int .u8 a, .int .u8 b2, .int .u8 c, .int .i64 n]] w fun e w' => e = .returned (.bool true) ∧ PartB w' b (p.set a (n)) m ∧ Chg (fun k => k = b) w w' := by
  have hai : (a : Int) < 8 := by omega
  have hlt0 := hp.lt
  have hg : Chg Non w (w.alloc (.cells #[.int .u8 op, .int .u8 a, .int .u8 b2, .int .u8 c, .int .i64 n] 38)).drew := ((Chg.refl Non w).alloc _).drew
  have hp2 := hp.non hg
  obtain ⟨⟨z, c0, c1, c2, c3, c4⟩, _⟩ := (Blk5.mk (blockN ((Chg.refl Non _).drew) (heap_alloc_new w (.cells #[.int .u8 op, .int .u8 a, .int .u8 b2, .int .u8 c, .int .i64 n] 38)))).all
  clear hp
  go_enter Tryz.func36, Tryz.ntmps36
  go_wp2_with fail
  refine wp_region_still_tail 9 (by kernel_rfl) (by kernel_rfl) ?_
  simp only [List.take_succ_cons, List.take_zero, List.drop_succ_cons, List.drop_zero]
  change wpStill _ _ (w.alloc (.cells #[.int .u8 op, .int .u8 a, .int .u8 b2, .int .u8 c, .int .i64 n] 38)).drew (fun a' => wpList _ _ _ _ a' (w.alloc (.cells #[.int .u8 op, .int .u8 a, .int .u8 b2, .int .u8 c, .int .i64 n] 38)).drew) _ _
  generalize (w.alloc (.cells #[.int .u8 op, .int .u8 a, .int .u8 b2, .int .u8 c, .int .i64 n] 38)).drew = w2 at hg hp2 z c0 c1 c2 c3 c4 ⊢
  have HP := Lib.hid hp2
  have HG := Lib.hid hg
  have hlt := hp2.lt
  have hf := hp2.frozen (3 + a)
  have hca := hp2.reg a ha
  clear hp2 hg
  repeat still_step
  refine wpStill_nil ?_
  go_wp2_with fail
  go_ret
  exact ⟨rfl, HP.out.setReg a n ha, HG.out.non_then (setAt w2 b (3 + a) _)⟩
set_option maxRecDepth 100000 in
set_option maxHeartbeats 1000000 in
theorem high_ok (b : Nat) (p : Pt) (m : Value) (op a b2 c n : Nat) (w : World) (hp : PartB w b p m) (ha : a < 8) (hn : n < 65536) (r : Nat) (hr : p.g a = r) (hb : r < 4294967296) :
    Calls Tryz.prog 37 #[.pointer (some ⟨b, 0, none⟩), .agg #[.int .u8 op, .int .u8 a, .int .u8 b2, .int .u8 c, .int .i64 n]] w fun e w' => e = .returned (.bool true) ∧ PartB w' b (p.set a ((r * 65536 % 4294967296) ||| n)) m ∧ Chg (fun k => k = b) w w' := by
  have hai : (a : Int) < 8 := by omega
  have hlt0 := hp.lt
  have hg : Chg Non w (w.alloc (.cells #[.int .u8 op, .int .u8 a, .int .u8 b2, .int .u8 c, .int .i64 n] 38)).drew := ((Chg.refl Non w).alloc _).drew
  have hp2 := hp.non hg
  obtain ⟨⟨z, c0, c1, c2, c3, c4⟩, _⟩ := (Blk5.mk (blockN ((Chg.refl Non _).drew) (heap_alloc_new w (.cells #[.int .u8 op, .int .u8 a, .int .u8 b2, .int .u8 c, .int .i64 n] 38)))).all
  clear hp
  go_enter Tryz.func37, Tryz.ntmps37
  go_wp2_with fail
  refine wp_region_still_tail 18 (by kernel_rfl) (by kernel_rfl) ?_
  simp only [List.take_succ_cons, List.take_zero, List.drop_succ_cons, List.drop_zero]
  change wpStill _ _ (w.alloc (.cells #[.int .u8 op, .int .u8 a, .int .u8 b2, .int .u8 c, .int .i64 n] 38)).drew (fun a' => wpList _ _ _ _ a' (w.alloc (.cells #[.int .u8 op, .int .u8 a, .int .u8 b2, .int .u8 c, .int .i64 n] 38)).drew) _ _
  generalize (w.alloc (.cells #[.int .u8 op, .int .u8 a, .int .u8 b2, .int .u8 c, .int .i64 n] 38)).drew = w2 at hg hp2 z c0 c1 c2 c3 c4 ⊢
  have HP := Lib.hid hp2
  have HG := Lib.hid hg
  have hlt := hp2.lt
  have hf := hp2.frozen (3 + a)
  have hca := hp2.reg a ha
  rw [hr] at hca
  have hor : bits .or .u32 ((r : Int) * 65536 % 4294967296) (n : Int) = (((r * 65536 % 4294967296) ||| n : Nat) : Int) := by have := u32_or_nat (r * 65536 % 4294967296) n (by omega) (by omega); simpa using this
  clear hp2 hg
  repeat still_step
  refine wpStill_nil ?_
  go_wp2_with fail
  go_ret
  exact ⟨rfl, by rw [hor]; exact HP.out.setReg a _ ha, HG.out.non_then (setAt w2 b (3 + a) _)⟩
set_option maxRecDepth 100000 in
set_option maxHeartbeats 1000000 in
theorem move_ok (b : Nat) (p : Pt) (m : Value) (op a b2 c n : Nat) (w : World) (hp : PartB w b p m) (ha : a < 8) (hb2 : b2 < 8) :
    Calls Tryz.prog 42 #[.pointer (some ⟨b, 0, none⟩), .agg #[.int .u8 op, .int .u8 a, .int .u8 b2, .int .u8 c, .int .i64 n]] w fun e w' => e = .returned (.bool true) ∧ PartB w' b (p.set a (p.g b2)) m ∧ Chg (fun k => k = b) w w' := by
  have hai : (a : Int) < 8 := by omega
  have hlt0 := hp.lt
  have hg : Chg Non w (w.alloc (.cells #[.int .u8 op, .int .u8 a, .int .u8 b2, .int .u8 c, .int .i64 n] 38)).drew := ((Chg.refl Non w).alloc _).drew
  have hp2 := hp.non hg
  obtain ⟨⟨z, c0, c1, c2, c3, c4⟩, _⟩ := (Blk5.mk (blockN ((Chg.refl Non _).drew) (heap_alloc_new w (.cells #[.int .u8 op, .int .u8 a, .int .u8 b2, .int .u8 c, .int .i64 n] 38)))).all
  clear hp
  go_enter Tryz.func42, Tryz.ntmps42
  go_wp2_with fail
  refine wp_region_still_tail 13 (by kernel_rfl) (by kernel_rfl) ?_
  simp only [List.take_succ_cons, List.take_zero, List.drop_succ_cons, List.drop_zero]
  change wpStill _ _ (w.alloc (.cells #[.int .u8 op, .int .u8 a, .int .u8 b2, .int .u8 c, .int .i64 n] 38)).drew (fun a' => wpList _ _ _ _ a' (w.alloc (.cells #[.int .u8 op, .int .u8 a, .int .u8 b2, .int .u8 c, .int .i64 n] 38)).drew) _ _
  generalize (w.alloc (.cells #[.int .u8 op, .int .u8 a, .int .u8 b2, .int .u8 c, .int .i64 n] 38)).drew = w2 at hg hp2 z c0 c1 c2 c3 c4 ⊢
  have HP := Lib.hid hp2
  have HG := Lib.hid hg
  have hlt := hp2.lt
  have hf := hp2.frozen (3 + a)
  have hca := hp2.reg a ha
  have hbi : (b2 : Int) < 8 := by omega
  have hcb := hp2.reg b2 hb2
  clear hp2 hg
  repeat still_step
  refine wpStill_nil ?_
  go_wp2_with fail
  go_ret
  exact ⟨rfl, HP.out.setReg a _ ha, HG.out.non_then (setAt w2 b (3 + a) _)⟩
set_option maxRecDepth 100000 in
set_option maxHeartbeats 1000000 in
theorem address_ok (b : Nat) (p : Pt) (m : Value) (op a b2 c n : Nat) (w : World) (hp : PartB w b p m) (hb2 : b2 < 8) (r : Nat) (hr : p.g b2 = r) (hn : n < 65536) (hb : r < 4294967296) :
    Calls Tryz.prog 59 #[.pointer (some ⟨b, 0, none⟩), .agg #[.int .u8 op, .int .u8 a, .int .u8 b2, .int .u8 c, .int .i64 n]] w fun e w' => e = .returned (.int .i64 ((r + n : Nat) : Int)) ∧ Chg Non w w' := by
  have hbi : (b2 : Int) < 8 := by omega
  have hg : Chg Non w (w.alloc (.cells #[.int .u8 op, .int .u8 a, .int .u8 b2, .int .u8 c, .int .i64 n] 38)).drew := ((Chg.refl Non w).alloc _).drew
  have hp2 := hp.non hg
  have hc := hp2.reg b2 hb2
  rw [hr] at hc
  obtain ⟨⟨z, c0, c1, c2, c3, c4⟩, _⟩ := (Blk5.mk (blockN ((Chg.refl Non _).drew) (heap_alloc_new w (.cells #[.int .u8 op, .int .u8 a, .int .u8 b2, .int .u8 c, .int .i64 n] 38)))).all
  have HG := Lib.hid hg
  clear hp hp2 hg
  go_enter Tryz.func59, Tryz.ntmps59
  go_wp2_with fail
  refine wp_region_held_drew (S := fun W => W.cell? ⟨b, 3 + b2, none⟩ = some (.int .u32 r) ∧ W.cell? ⟨w.heap.size, 2, none⟩ = some (.int .u8 b2) ∧ W.cell? ⟨w.heap.size, 4, none⟩ = some (.int .i64 n)) (by kernel_rfl) ⟨hc, c2, c4⟩ (fun hHeld => ?_)
  refine h_pure 0 (some 5) (.pointer (some ⟨b, 0, none⟩)) rfl (by kernel_rfl) (by kernel_rfl) (by kernel_rfl) (by kernel_rfl) (fun _ _ _ h => h) (by kernel_rfl) (fun W hW => by obtain ⟨e1, e2, e3⟩ := hW; go_simp) hHeld ?_
  simp only [Act.put, List.setIfInBounds_toArray, List.set_cons_zero, List.set_cons_succ]
  refine h_pure 1 (some 6) (.pointer (some ⟨w.heap.size, 2, none⟩)) rfl (by kernel_rfl) (by kernel_rfl) (by kernel_rfl) (by kernel_rfl) (fun _ _ _ h => h) (by kernel_rfl) (fun W hW => by obtain ⟨e1, e2, e3⟩ := hW; go_simp) hHeld ?_
  simp only [Act.put, List.setIfInBounds_toArray, List.set_cons_zero, List.set_cons_succ]
  refine h_pure 2 (some 7) (.int .u8 b2) rfl (by kernel_rfl) (by kernel_rfl) (by kernel_rfl) (by kernel_rfl) (fun _ _ _ h => h) (by kernel_rfl) (fun W hW => by obtain ⟨e1, e2, e3⟩ := hW; go_simp) hHeld ?_
  simp only [Act.put, List.setIfInBounds_toArray, List.set_cons_zero, List.set_cons_succ]
  refine h_pure 3 (some 8) (.pointer (some ⟨b, 0, none⟩)) rfl (by kernel_rfl) (by kernel_rfl) (by kernel_rfl) (by kernel_rfl) (fun _ _ _ h => h) (by kernel_rfl) (fun W hW => by obtain ⟨e1, e2, e3⟩ := hW; go_simp) hHeld ?_
  simp only [Act.put, List.setIfInBounds_toArray, List.set_cons_zero, List.set_cons_succ]
  refine h_pure 4 (some 9) (.pointer (some ⟨b, 3, none⟩)) rfl (by kernel_rfl) (by kernel_rfl) (by kernel_rfl) (by kernel_rfl) (fun _ _ _ h => h) (by kernel_rfl) (fun W hW => by obtain ⟨e1, e2, e3⟩ := hW; go_simp) hHeld ?_
  simp only [Act.put, List.setIfInBounds_toArray, List.set_cons_zero, List.set_cons_succ]
  refine h_pure 5 (some 10) (.pointer (some ⟨b, 3 + b2, none⟩)) rfl (by kernel_rfl) (by kernel_rfl) (by kernel_rfl) (by kernel_rfl) (fun _ _ _ h => h) (by kernel_rfl) (fun W hW => by obtain ⟨e1, e2, e3⟩ := hW; go_simp) hHeld ?_
  simp only [Act.put, List.setIfInBounds_toArray, List.set_cons_zero, List.set_cons_succ]
  refine h_pure 6 (some 11) (.int .u32 r) rfl (by kernel_rfl) (by kernel_rfl) (by kernel_rfl) (by kernel_rfl) (fun _ _ _ h => h) (by kernel_rfl) (fun W hW => by obtain ⟨e1, e2, e3⟩ := hW; go_simp) hHeld ?_
  simp only [Act.put, List.setIfInBounds_toArray, List.set_cons_zero, List.set_cons_succ]
  refine h_pure 7 (some 12) (.int .i64 r) rfl (by kernel_rfl) (by kernel_rfl) (by kernel_rfl) (by kernel_rfl) (fun _ _ _ h => h) (by kernel_rfl) (fun W hW => by obtain ⟨e1, e2, e3⟩ := hW; go_simp; exact Go.IntWalk.i64_in _ (by omega)) hHeld ?_
  simp only [Act.put, List.setIfInBounds_toArray, List.set_cons_zero, List.set_cons_succ]
  refine h_pure 8 (some 13) (.pointer (some ⟨w.heap.size, 4, none⟩)) rfl (by kernel_rfl) (by kernel_rfl) (by kernel_rfl) (by kernel_rfl) (fun _ _ _ h => h) (by kernel_rfl) (fun W hW => by obtain ⟨e1, e2, e3⟩ := hW; go_simp) hHeld ?_
  simp only [Act.put, List.setIfInBounds_toArray, List.set_cons_zero, List.set_cons_succ]
  refine h_pure 9 (some 14) (.int .i64 n) rfl (by kernel_rfl) (by kernel_rfl) (by kernel_rfl) (by kernel_rfl) (fun _ _ _ h => h) (by kernel_rfl) (fun W hW => by obtain ⟨e1, e2, e3⟩ := hW; go_simp) hHeld ?_
  simp only [Act.put, List.setIfInBounds_toArray, List.set_cons_zero, List.set_cons_succ]
  refine h_pure 10 (some 15) (.int .i64 ((r + n : Nat) : Int)) rfl (by kernel_rfl) (by kernel_rfl) (by kernel_rfl) (by kernel_rfl) (fun _ _ _ h => h) (by kernel_rfl) (fun W hW => by obtain ⟨e1, e2, e3⟩ := hW; go_simp; exact Go.IntWalk.i64_in _ (by omega)) hHeld ?_
  simp only [Act.put, List.setIfInBounds_toArray, List.set_cons_zero, List.set_cons_succ]
  refine h_pure 11 (some 4) (.int .i64 ((r + n : Nat) : Int)) rfl (by kernel_rfl) (by kernel_rfl) (by kernel_rfl) (by kernel_rfl) (fun _ _ _ h => h) (by kernel_rfl) (fun W hW => by obtain ⟨e1, e2, e3⟩ := hW; go_simp) hHeld ?_
  simp only [Act.put, List.setIfInBounds_toArray, List.set_cons_zero, List.set_cons_succ]
  refine wpAnyH_done (by kernel_rfl) ?_ _
  go_wp2_with fail
  go_ret
  exact ⟨rfl, HG.out⟩

theorem mk2_4 (x y : Nat) : mk2 4 x y = (x + y) % 4294967296 := by unfold mk2; rw [if_pos rfl]
theorem mk2_5 (x y : Nat) : mk2 5 x y = (x + 4294967296 - y) % 4294967296 := by unfold mk2; rw [if_neg (by decide), if_pos rfl]
theorem mk2_6 (x y : Nat) : mk2 6 x y = x * y % 4294967296 := by unfold mk2; rw [if_neg (by decide), if_neg (by decide), if_pos rfl]
theorem mk2_7 (x y : Nat) : mk2 7 x y = x &&& y := by unfold mk2; rw [if_neg (by decide), if_neg (by decide), if_neg (by decide), if_pos rfl]
theorem mk2_8 (x y : Nat) : mk2 8 x y = x ||| y := by unfold mk2; rw [if_neg (by decide), if_neg (by decide), if_neg (by decide), if_neg (by decide), if_pos rfl]
theorem mk2_9 (x y : Nat) : mk2 9 x y = x ^^^ y := by unfold mk2; rw [if_neg (by decide), if_neg (by decide), if_neg (by decide), if_neg (by decide), if_neg (by decide), if_pos rfl]
theorem mk2_10 (x y : Nat) : mk2 10 x y = x * 2 ^ (y % 32) % 4294967296 := by unfold mk2; rw [if_neg (by decide), if_neg (by decide), if_neg (by decide), if_neg (by decide), if_neg (by decide), if_neg (by decide), if_pos rfl]
theorem mk2_11 (x y : Nat) : mk2 11 x y = x / 2 ^ (y % 32) := by unfold mk2; rw [if_neg (by decide), if_neg (by decide), if_neg (by decide), if_neg (by decide), if_neg (by decide), if_neg (by decide), if_neg (by decide), if_pos rfl]
theorem mk2_12 (x y : Nat) : mk2 12 x y = if x < y then 1 else 0 := by unfold mk2; rw [if_neg (by decide), if_neg (by decide), if_neg (by decide), if_neg (by decide), if_neg (by decide), if_neg (by decide), if_neg (by decide), if_neg (by decide), if_pos rfl]
set_option maxRecDepth 100000 in
theorem mk_add (x y : Nat) (w : World) (hx : x < 4294967296) (hy : y < 4294967296) :
    Calls Tryz.prog 43 #[.int .u32 x, .int .u32 y] w fun e w' => e = .returned (.int .u32 ((mk2 4 x y : Nat) : Int)) ∧ w = w' := by
  go_enter Tryz.func43, Tryz.ntmps43
  go_wp2_with fail
  go_ret
  refine ⟨?_, rfl⟩
  show Ending.returned (Value.int .u32 (((x : Int) + y) % 4294967296)) = _
  rw [mk2_4, show ((x : Int) + y) % 4294967296 = (((x + y) % 4294967296 : Nat) : Int) from by omega]
set_option maxRecDepth 100000 in
theorem mk_sub (x y : Nat) (w : World) (hx : x < 4294967296) (hy : y < 4294967296) :
    Calls Tryz.prog 44 #[.int .u32 x, .int .u32 y] w fun e w' => e = .returned (.int .u32 ((mk2 5 x y : Nat) : Int)) ∧ w = w' := by
  go_enter Tryz.func44, Tryz.ntmps44
  go_wp2_with fail
  go_ret
  refine ⟨?_, rfl⟩
  show Ending.returned (Value.int .u32 (((x : Int) - y) % 4294967296)) = _
  rw [mk2_5, show ((x : Int) - y) % 4294967296 = (((x + 4294967296 - y) % 4294967296 : Nat) : Int) from by omega]
set_option maxRecDepth 100000 in
theorem mk_mul (x y : Nat) (w : World) (hx : x < 4294967296) (hy : y < 4294967296) :
    Calls Tryz.prog 45 #[.int .u32 x, .int .u32 y] w fun e w' => e = .returned (.int .u32 ((mk2 6 x y : Nat) : Int)) ∧ w = w' := by
  go_enter Tryz.func45, Tryz.ntmps45
  go_wp2_with fail
  go_ret
  refine ⟨?_, rfl⟩
  show Ending.returned (Value.int .u32 (((x : Int) * y) % 4294967296)) = _
  rw [mk2_6, show ((x : Int) * y) % 4294967296 = ((x * y % 4294967296 : Nat) : Int) from by rw [Int.natCast_emod, Int.natCast_mul]; rfl]
set_option maxRecDepth 100000 in
theorem mk_and (x y : Nat) (w : World) (hx : x < 4294967296) (hy : y < 4294967296) :
    Calls Tryz.prog 46 #[.int .u32 x, .int .u32 y] w fun e w' => e = .returned (.int .u32 ((mk2 7 x y : Nat) : Int)) ∧ w = w' := by
  go_enter Tryz.func46, Tryz.ntmps46
  go_wp2_with fail
  go_ret
  refine ⟨?_, rfl⟩
  show Ending.returned (Value.int .u32 (bits .and .u32 (x : Int) (y : Int))) = _
  rw [mk2_7, show bits .and .u32 (x : Int) (y : Int) = ((x &&& y : Nat) : Int) from u32_and_nat x y hx hy]
set_option maxRecDepth 100000 in
theorem mk_or (x y : Nat) (w : World) (hx : x < 4294967296) (hy : y < 4294967296) :
    Calls Tryz.prog 47 #[.int .u32 x, .int .u32 y] w fun e w' => e = .returned (.int .u32 ((mk2 8 x y : Nat) : Int)) ∧ w = w' := by
  go_enter Tryz.func47, Tryz.ntmps47
  go_wp2_with fail
  go_ret
  refine ⟨?_, rfl⟩
  show Ending.returned (Value.int .u32 (bits .or .u32 (x : Int) (y : Int))) = _
  rw [mk2_8, show bits .or .u32 (x : Int) (y : Int) = ((x ||| y : Nat) : Int) from u32_or_nat x y hx hy]
set_option maxRecDepth 100000 in
theorem mk_xor (x y : Nat) (w : World) (hx : x < 4294967296) (hy : y < 4294967296) :
    Calls Tryz.prog 48 #[.int .u32 x, .int .u32 y] w fun e w' => e = .returned (.int .u32 ((mk2 9 x y : Nat) : Int)) ∧ w = w' := by
  go_enter Tryz.func48, Tryz.ntmps48
  go_wp2_with fail
  go_ret
  refine ⟨?_, rfl⟩
  show Ending.returned (Value.int .u32 (bits .xor .u32 (x : Int) (y : Int))) = _
  rw [mk2_9, show bits .xor .u32 (x : Int) (y : Int) = ((x ^^^ y : Nat) : Int) from u32_xor_nat x y hx hy]
set_option maxRecDepth 100000 in
theorem mk_shl (x y : Nat) (w : World) (hx : x < 4294967296) (hy : y < 4294967296) :
    Calls Tryz.prog 49 #[.int .u32 x, .int .u32 y] w fun e w' => e = .returned (.int .u32 ((mk2 10 x y : Nat) : Int)) ∧ w = w' := by
  go_enter Tryz.func49, Tryz.ntmps49
  go_wp2_with fail
  go_ret
  refine ⟨?_, rfl⟩
  show Ending.returned (Value.int .u32 ((x : Int) * 2 ^ (y % 32) % 4294967296)) = _
  rw [mk2_10, show (x : Int) * 2 ^ (y % 32) % 4294967296 = ((x * 2 ^ (y % 32) % 4294967296 : Nat) : Int) from by rw [Int.natCast_emod, Int.natCast_mul, Int.natCast_pow]; rfl]
set_option maxRecDepth 100000 in
theorem mk_shr (x y : Nat) (w : World) (hx : x < 4294967296) (hy : y < 4294967296) :
    Calls Tryz.prog 50 #[.int .u32 x, .int .u32 y] w fun e w' => e = .returned (.int .u32 ((mk2 11 x y : Nat) : Int)) ∧ w = w' := by
  go_enter Tryz.func50, Tryz.ntmps50
  go_wp2_with fail
  go_ret
  refine ⟨?_, rfl⟩
  show Ending.returned (Value.int .u32 ((x : Int) / 2 ^ (y % 32))) = _
  rw [mk2_11, show (x : Int) / 2 ^ (y % 32) = ((x / 2 ^ (y % 32) : Nat) : Int) from by rw [Int.natCast_ediv, Int.natCast_pow]; rfl]
set_option maxRecDepth 100000 in
theorem mk_less (x y : Nat) (w : World) :
    Calls Tryz.prog 51 #[.int .u32 x, .int .u32 y] w fun e w' => e = .returned (.int .u32 ((mk2 12 x y : Nat) : Int)) ∧ w = w' := by
  by_cases h : x < y
  · have hb : decide ((x : Int) < (y : Int)) = true := by simp; omega
    rw [show mk2 12 x y = 1 by rw [mk2_12, if_pos h]]
    go_enter Tryz.func51, Tryz.ntmps51
    go_wp2_with fail
    go_ret
    exact ⟨rfl, rfl⟩
  · have hb : decide ((x : Int) < (y : Int)) = false := by simp; omega
    rw [show mk2 12 x y = 0 by rw [mk2_12, if_neg h]]
    go_enter Tryz.func51, Tryz.ntmps51
    go_wp2_with fail
    go_ret
    exact ⟨rfl, rfl⟩

theorem num32_go (b : List UInt8) : ∀ x, b.foldl (fun x c => 256 * x + c.toNat) x < (x + 1) * 256 ^ b.length := by
  induction b with
  | nil => intro x; simp
  | cons c r ih =>
    intro x
    have h := ih (256 * x + c.toNat)
    have hc := c.toNat_lt
    rw [List.foldl_cons, List.length_cons, Nat.pow_succ]
    refine Nat.lt_of_lt_of_le h ?_
    rw [Nat.mul_comm (256 ^ r.length) 256, ← Nat.mul_assoc]
    exact Nat.mul_le_mul_right _ (by omega)
theorem num32_lt (b : List UInt8) (h : b.length ≤ 4) : num32 b < 4294967296 := by
  have h1 := num32_go b 0
  have h2 : 256 ^ b.length ≤ 256 ^ 4 := Nat.pow_le_pow_right (by decide) h
  unfold num32
  omega
set_option maxRecDepth 100000 in
set_option maxHeartbeats 2000000 in
theorem loadByte_yes (b : Nat) (p : Pt) (A : Option Addr) (l : List UInt8) (cl : Nat) (op a b2 c n r : Nat) (w : World) (hp : PartB w b p (.slice A l.length cl)) (hr : Rd w A l) (hlc : l.length ≤ cl) (hcm : cl ≤ maxLen) (ha : a < 8) (hb2 : b2 < 8) (hn : n < 65536) (hrg : p.g b2 = r) (hrb : r < 4294967296) (ht : there l (r + n) 1 = true) (x : UInt8) (hx : cut l (r + n) 1 = [x]) :
    Calls Tryz.prog 38 #[.pointer (some ⟨b, 0, none⟩), .agg #[.int .u8 op, .int .u8 a, .int .u8 b2, .int .u8 c, .int .i64 n]] w fun e w' => e = .returned (.bool true) ∧ PartB w' b (p.set a (x.toNat)) (.slice A l.length cl) ∧ Chg (fun k => k = b) w w' := by
  have hai : (a : Int) < 8 := by omega
  have hlt0 := hp.lt
  have HP := Lib.hid hp
  have HP1 : Hid (PartB (w.alloc (.cells #[.int .u8 op, .int .u8 a, .int .u8 b2, .int .u8 c, .int .i64 n] 38)) b p (.slice A l.length cl)) := Lib.hid (hp.non ((Chg.refl Non w).alloc _))
  have HR := Lib.hid (hr.non ((Chg.refl Non w).alloc (.cells #[.int .u8 op, .int .u8 a, .int .u8 b2, .int .u8 c, .int .i64 n] 38)))
  have HX := Lib.hid (heap_alloc_new w (.cells #[.int .u8 op, .int .u8 a, .int .u8 b2, .int .u8 c, .int .i64 n] 38))
  have HT := Lib.hid ht
  clear hp hr ht
  obtain ⟨v, hv⟩ : ∃ v, x.toNat = v := ⟨_, rfl⟩
  have hvb : v < 256 := by rw [← hv]; exact x.toNat_lt
  have HV := Lib.hid hv
  rw [hv]
  have HXx := Lib.hid hx
  clear hv hx
  go_enter Tryz.func38, Tryz.ntmps38
  go_wp2_with fail
  refine wp_region_held_drew (S := fun v => Chg Non (w.alloc (.cells #[.int .u8 op, .int .u8 a, .int .u8 b2, .int .u8 c, .int .i64 n] 38)) v) (by kernel_rfl) ((Chg.refl Non _).drew) (fun hHeld => ?_)
  clear hHeld
  refine h_pure 0 (some 8) (.pointer (some ⟨b, 0, none⟩)) rfl (by kernel_rfl) (by kernel_rfl) (by kernel_rfl) (by kernel_rfl) (fun _ _ _ h => h) (by kernel_rfl) (fun w e => by go_simp) ((Chg.refl _ _).drew) ?_
  simp only [Act.put, List.setIfInBounds_toArray, List.set_cons_zero, List.set_cons_succ]
  refine h_pure 1 (some 9) (.pointer (some ⟨b, 0, none⟩)) rfl (by kernel_rfl) (by kernel_rfl) (by kernel_rfl) (by kernel_rfl) (fun _ _ _ h => h) (by kernel_rfl) (fun w e => by go_simp) ((Chg.refl _ _).drew) ?_
  simp only [Act.put, List.setIfInBounds_toArray, List.set_cons_zero, List.set_cons_succ]
  refine h_pure 2 (some 10) (.pointer (some ⟨b, 13, none⟩)) rfl (by kernel_rfl) (by kernel_rfl) (by kernel_rfl) (by kernel_rfl) (fun _ _ _ h => h) (by kernel_rfl) (fun w e => by go_simp) ((Chg.refl _ _).drew) ?_
  simp only [Act.put, List.setIfInBounds_toArray, List.set_cons_zero, List.set_cons_succ]
  refine h_pure 3 (some 11) (.slice A l.length cl) rfl (by kernel_rfl) (by kernel_rfl) (by kernel_rfl) (by kernel_rfl) (fun _ _ _ h => h) (by kernel_rfl) (fun w e => by have hq := (HP1.out.non e).cells.2.2.2.2.2; go_simp) ((Chg.refl _ _).drew) ?_
  simp only [Act.put, List.setIfInBounds_toArray, List.set_cons_zero, List.set_cons_succ]
  refine h_pure 4 (some 12) (.pointer (some ⟨b, 0, none⟩)) rfl (by kernel_rfl) (by kernel_rfl) (by kernel_rfl) (by kernel_rfl) (fun _ _ _ h => h) (by kernel_rfl) (fun w e => by go_simp) ((Chg.refl _ _).drew) ?_
  simp only [Act.put, List.setIfInBounds_toArray, List.set_cons_zero, List.set_cons_succ]
  refine h_load 5 (some 13) 38 (.tmp 3) w.heap.size 0 #[.int .u8 op, .int .u8 a, .int .u8 b2, .int .u8 c, .int .i64 n] _ rfl (by kernel_rfl) (by kernel_rfl) (by kernel_rfl) (by kernel_rfl) (by kernel_rfl) (fun _ _ _ h => h) (by kernel_rfl) (by kernel_rfl) (fun w h => row_range (blockN h HX.out)) Tryz.underlying38 rfl info_ins ((Chg.refl _ _).drew) ?_
  simp only [Act.put, List.setIfInBounds_toArray, List.set_cons_zero, List.set_cons_succ]
  refine h_one 6 (by kernel_rfl) rfl (by kernel_rfl) ?_
  intro K hK
  go_simp
  refine (address_ok b p _ op a b2 c n _ (HP1.out.non ((Chg.refl Non _).drew)) hb2 r hrg hn hrb).mono ?_
  rintro e y1 ⟨rfl, hg1⟩
  have HY1 := Lib.hid (((Chg.refl Non _).drew).then_non hg1)
  clear hg1
  refine hK.out _ _ HY1.out (fun _ => ?_)
  clear hK K
  refine h_one 7 (by kernel_rfl) rfl (by kernel_rfl) ?_
  intro K hK
  go_simp
  have hl := Load_yes A l cl (r + n) x _ (HR.out.non HY1.out) hlc hcm HT.out HXx.out
  rw [HV.out] at hl
  refine hl.mono ?_
  rintro e y2 ⟨rfl, rfl⟩
  refine hK.out _ _ HY1.out (fun _ => ?_)
  clear hK K
  refine h_pure 8 (some 7) (.tuple #[.int .u8 v, .int .i64 0]) rfl (by kernel_rfl) (by kernel_rfl) (by kernel_rfl) (by kernel_rfl) (fun _ _ _ h => h) (by kernel_rfl) (fun w e => by go_simp) HY1.out ?_
  simp only [Act.put, List.setIfInBounds_toArray, List.set_cons_zero, List.set_cons_succ]
  refine h_pure 9 (some 16) (.int .u8 v) rfl (by kernel_rfl) (by kernel_rfl) (by kernel_rfl) (by kernel_rfl) (fun _ _ _ h => h) (by kernel_rfl) (fun w e => by go_simp) HY1.out ?_
  simp only [Act.put, List.setIfInBounds_toArray, List.set_cons_zero, List.set_cons_succ]
  refine h_pure 10 (some 17) (.int .i64 0) rfl (by kernel_rfl) (by kernel_rfl) (by kernel_rfl) (by kernel_rfl) (fun _ _ _ h => h) (by kernel_rfl) (fun w e => by go_simp) HY1.out ?_
  simp only [Act.put, List.setIfInBounds_toArray, List.set_cons_zero, List.set_cons_succ]
  refine h_pure 11 (some 5) (.int .u8 v) rfl (by kernel_rfl) (by kernel_rfl) (by kernel_rfl) (by kernel_rfl) (fun _ _ _ h => h) (by kernel_rfl) (fun w e => by go_simp) HY1.out ?_
  simp only [Act.put, List.setIfInBounds_toArray, List.set_cons_zero, List.set_cons_succ]
  refine h_pure 12 (some 6) (.int .i64 0) rfl (by kernel_rfl) (by kernel_rfl) (by kernel_rfl) (by kernel_rfl) (fun _ _ _ h => h) (by kernel_rfl) (fun w e => by go_simp) HY1.out ?_
  simp only [Act.put, List.setIfInBounds_toArray, List.set_cons_zero, List.set_cons_succ]
  refine wpAnyH_done (by kernel_rfl) ?_ _
  have hg : Chg Non (w.alloc (.cells #[.int .u8 op, .int .u8 a, .int .u8 b2, .int .u8 c, .int .i64 n] 38)) y1.drew := HY1.out.drew
  have hp2 := HP1.out.non hg
  obtain ⟨⟨z, c0, c1, c2, c3, c4⟩, _⟩ := (Blk5.mk (blockN hg HX.out)).all
  go_wp2_with fail
  refine wp_region_still_tail 8 (by kernel_rfl) (by kernel_rfl) ?_
  simp only [List.take_succ_cons, List.take_zero, List.drop_succ_cons, List.drop_zero]
  change wpStill _ _ y1.drew (fun a' => wpList _ _ _ _ a' y1.drew) _ _
  generalize y1.drew = w2 at hg hp2 z c0 c1 c2 c3 c4 ⊢
  have HP2 := Lib.hid hp2
  have HG2 := Lib.hid (((Chg.refl Non w).alloc _).then_non hg)
  have hlt := hp2.lt
  have hf := hp2.frozen (3 + a)
  have hca := hp2.reg a ha
  have hwv : IntKind.u32.wrap (v : Int) = v := Go.IntWalk.u32_in _ (by omega)
  clear hp2 hg
  repeat still_step
  refine wpStill_nil ?_
  go_wp2_with fail
  go_ret
  exact ⟨rfl, HP2.out.setReg a v ha, HG2.out.non_then (setAt w2 b (3 + a) _)⟩
set_option maxRecDepth 100000 in
set_option maxHeartbeats 2000000 in
theorem loadByte_no (b : Nat) (p : Pt) (A : Option Addr) (l : List UInt8) (cl : Nat) (op a b2 c n r : Nat) (w : World) (hp : PartB w b p (.slice A l.length cl)) (hr : Rd w A l) (hlc : l.length ≤ cl) (hcm : cl ≤ maxLen) (ha : a < 8) (hb2 : b2 < 8) (hn : n < 65536) (hrg : p.g b2 = r) (hrb : r < 4294967296) (ht : there l (r + n) 1 = false) :
    Calls Tryz.prog 38 #[.pointer (some ⟨b, 0, none⟩), .agg #[.int .u8 op, .int .u8 a, .int .u8 b2, .int .u8 c, .int .i64 n]] w fun e w' => e = .returned (.bool false) ∧ PartB w' b p (.slice A l.length cl) ∧ Chg Non w w' := by
  have hai : (a : Int) < 8 := by omega
  have hlt0 := hp.lt
  have HP := Lib.hid hp
  have HP1 : Hid (PartB (w.alloc (.cells #[.int .u8 op, .int .u8 a, .int .u8 b2, .int .u8 c, .int .i64 n] 38)) b p (.slice A l.length cl)) := Lib.hid (hp.non ((Chg.refl Non w).alloc _))
  have HR := Lib.hid (hr.non ((Chg.refl Non w).alloc (.cells #[.int .u8 op, .int .u8 a, .int .u8 b2, .int .u8 c, .int .i64 n] 38)))
  have HX := Lib.hid (heap_alloc_new w (.cells #[.int .u8 op, .int .u8 a, .int .u8 b2, .int .u8 c, .int .i64 n] 38))
  have HT := Lib.hid ht
  clear hp hr ht
  go_enter Tryz.func38, Tryz.ntmps38
  go_wp2_with fail
  refine wp_region_held_drew (S := fun v => Chg Non (w.alloc (.cells #[.int .u8 op, .int .u8 a, .int .u8 b2, .int .u8 c, .int .i64 n] 38)) v) (by kernel_rfl) ((Chg.refl Non _).drew) (fun hHeld => ?_)
  clear hHeld
  refine h_pure 0 (some 8) (.pointer (some ⟨b, 0, none⟩)) rfl (by kernel_rfl) (by kernel_rfl) (by kernel_rfl) (by kernel_rfl) (fun _ _ _ h => h) (by kernel_rfl) (fun w e => by go_simp) ((Chg.refl _ _).drew) ?_
  simp only [Act.put, List.setIfInBounds_toArray, List.set_cons_zero, List.set_cons_succ]
  refine h_pure 1 (some 9) (.pointer (some ⟨b, 0, none⟩)) rfl (by kernel_rfl) (by kernel_rfl) (by kernel_rfl) (by kernel_rfl) (fun _ _ _ h => h) (by kernel_rfl) (fun w e => by go_simp) ((Chg.refl _ _).drew) ?_
  simp only [Act.put, List.setIfInBounds_toArray, List.set_cons_zero, List.set_cons_succ]
  refine h_pure 2 (some 10) (.pointer (some ⟨b, 13, none⟩)) rfl (by kernel_rfl) (by kernel_rfl) (by kernel_rfl) (by kernel_rfl) (fun _ _ _ h => h) (by kernel_rfl) (fun w e => by go_simp) ((Chg.refl _ _).drew) ?_
  simp only [Act.put, List.setIfInBounds_toArray, List.set_cons_zero, List.set_cons_succ]
  refine h_pure 3 (some 11) (.slice A l.length cl) rfl (by kernel_rfl) (by kernel_rfl) (by kernel_rfl) (by kernel_rfl) (fun _ _ _ h => h) (by kernel_rfl) (fun w e => by have hq := (HP1.out.non e).cells.2.2.2.2.2; go_simp) ((Chg.refl _ _).drew) ?_
  simp only [Act.put, List.setIfInBounds_toArray, List.set_cons_zero, List.set_cons_succ]
  refine h_pure 4 (some 12) (.pointer (some ⟨b, 0, none⟩)) rfl (by kernel_rfl) (by kernel_rfl) (by kernel_rfl) (by kernel_rfl) (fun _ _ _ h => h) (by kernel_rfl) (fun w e => by go_simp) ((Chg.refl _ _).drew) ?_
  simp only [Act.put, List.setIfInBounds_toArray, List.set_cons_zero, List.set_cons_succ]
  refine h_load 5 (some 13) 38 (.tmp 3) w.heap.size 0 #[.int .u8 op, .int .u8 a, .int .u8 b2, .int .u8 c, .int .i64 n] _ rfl (by kernel_rfl) (by kernel_rfl) (by kernel_rfl) (by kernel_rfl) (by kernel_rfl) (fun _ _ _ h => h) (by kernel_rfl) (by kernel_rfl) (fun w h => row_range (blockN h HX.out)) Tryz.underlying38 rfl info_ins ((Chg.refl _ _).drew) ?_
  simp only [Act.put, List.setIfInBounds_toArray, List.set_cons_zero, List.set_cons_succ]
  refine h_one 6 (by kernel_rfl) rfl (by kernel_rfl) ?_
  intro K hK
  go_simp
  refine (address_ok b p _ op a b2 c n _ (HP1.out.non ((Chg.refl Non _).drew)) hb2 r hrg hn hrb).mono ?_
  rintro e y1 ⟨rfl, hg1⟩
  have HY1 := Lib.hid (((Chg.refl Non _).drew).then_non hg1)
  clear hg1
  refine hK.out _ _ HY1.out (fun _ => ?_)
  clear hK K
  refine h_one 7 (by kernel_rfl) rfl (by kernel_rfl) ?_
  intro K hK
  go_simp
  refine (Load_no A l cl (r + n) _ (by omega) HT.out).mono ?_
  rintro e y2 ⟨er, her, rfl, rfl⟩
  refine hK.out _ _ HY1.out (fun _ => ?_)
  clear hK K
  refine h_pure 8 (some 7) (.tuple #[.int .u8 0, .int .i64 er]) rfl (by kernel_rfl) (by kernel_rfl) (by kernel_rfl) (by kernel_rfl) (fun _ _ _ h => h) (by kernel_rfl) (fun w e => by go_simp) HY1.out ?_
  simp only [Act.put, List.setIfInBounds_toArray, List.set_cons_zero, List.set_cons_succ]
  refine h_pure 9 (some 16) (.int .u8 0) rfl (by kernel_rfl) (by kernel_rfl) (by kernel_rfl) (by kernel_rfl) (fun _ _ _ h => h) (by kernel_rfl) (fun w e => by go_simp) HY1.out ?_
  simp only [Act.put, List.setIfInBounds_toArray, List.set_cons_zero, List.set_cons_succ]
  refine h_pure 10 (some 17) (.int .i64 er) rfl (by kernel_rfl) (by kernel_rfl) (by kernel_rfl) (by kernel_rfl) (fun _ _ _ h => h) (by kernel_rfl) (fun w e => by go_simp) HY1.out ?_
  simp only [Act.put, List.setIfInBounds_toArray, List.set_cons_zero, List.set_cons_succ]
  refine h_pure 11 (some 5) (.int .u8 0) rfl (by kernel_rfl) (by kernel_rfl) (by kernel_rfl) (by kernel_rfl) (fun _ _ _ h => h) (by kernel_rfl) (fun w e => by go_simp) HY1.out ?_
  simp only [Act.put, List.setIfInBounds_toArray, List.set_cons_zero, List.set_cons_succ]
  refine h_pure 12 (some 6) (.int .i64 er) rfl (by kernel_rfl) (by kernel_rfl) (by kernel_rfl) (by kernel_rfl) (fun _ _ _ h => h) (by kernel_rfl) (fun w e => by go_simp) HY1.out ?_
  simp only [Act.put, List.setIfInBounds_toArray, List.set_cons_zero, List.set_cons_succ]
  refine wpAnyH_done (by kernel_rfl) ?_ _
  go_wp2_with fail
  go_ret
  exact ⟨rfl, HP1.out.non HY1.out, ((Chg.refl Non w).alloc _).then_non HY1.out⟩
set_option maxRecDepth 100000 in
set_option maxHeartbeats 2000000 in
theorem loadWord_yes (b : Nat) (p : Pt) (A : Option Addr) (l : List UInt8) (cl : Nat) (op a b2 c n r : Nat) (w : World) (hp : PartB w b p (.slice A l.length cl)) (hr : Rd w A l) (hlc : l.length ≤ cl) (hcm : cl ≤ maxLen) (ha : a < 8) (hb2 : b2 < 8) (hn : n < 65536) (hrg : p.g b2 = r) (hrb : r < 4294967296) (ht : there l (r + n) 4 = true) :
    Calls Tryz.prog 40 #[.pointer (some ⟨b, 0, none⟩), .agg #[.int .u8 op, .int .u8 a, .int .u8 b2, .int .u8 c, .int .i64 n]] w fun e w' => e = .returned (.bool true) ∧ PartB w' b (p.set a (num32 (cut l (r + n) 4))) (.slice A l.length cl) ∧ Chg (fun k => k = b) w w' := by
  have hai : (a : Int) < 8 := by omega
  have hlt0 := hp.lt
  have HP := Lib.hid hp
  have HP1 : Hid (PartB (w.alloc (.cells #[.int .u8 op, .int .u8 a, .int .u8 b2, .int .u8 c, .int .i64 n] 38)) b p (.slice A l.length cl)) := Lib.hid (hp.non ((Chg.refl Non w).alloc _))
  have HR := Lib.hid (hr.non ((Chg.refl Non w).alloc (.cells #[.int .u8 op, .int .u8 a, .int .u8 b2, .int .u8 c, .int .i64 n] 38)))
  have HX := Lib.hid (heap_alloc_new w (.cells #[.int .u8 op, .int .u8 a, .int .u8 b2, .int .u8 c, .int .i64 n] 38))
  have HT := Lib.hid ht
  clear hp hr ht
  obtain ⟨v, hv⟩ : ∃ v, num32 (cut l (r + n) 4) = v := ⟨_, rfl⟩
  rw [hv]
  have HV := Lib.hid hv
  have hvb : v < 4294967296 := by rw [← hv]; exact num32_lt _ (by unfold cut; rw [List.length_take]; omega)
  clear hv
  go_enter Tryz.func40, Tryz.ntmps40
  go_wp2_with fail
  refine wp_region_held_drew (S := fun v => Chg Non (w.alloc (.cells #[.int .u8 op, .int .u8 a, .int .u8 b2, .int .u8 c, .int .i64 n] 38)) v) (by kernel_rfl) ((Chg.refl Non _).drew) (fun hHeld => ?_)
  clear hHeld
  refine h_pure 0 (some 8) (.pointer (some ⟨b, 0, none⟩)) rfl (by kernel_rfl) (by kernel_rfl) (by kernel_rfl) (by kernel_rfl) (fun _ _ _ h => h) (by kernel_rfl) (fun w e => by go_simp) ((Chg.refl _ _).drew) ?_
  simp only [Act.put, List.setIfInBounds_toArray, List.set_cons_zero, List.set_cons_succ]
  refine h_pure 1 (some 9) (.pointer (some ⟨b, 0, none⟩)) rfl (by kernel_rfl) (by kernel_rfl) (by kernel_rfl) (by kernel_rfl) (fun _ _ _ h => h) (by kernel_rfl) (fun w e => by go_simp) ((Chg.refl _ _).drew) ?_
  simp only [Act.put, List.setIfInBounds_toArray, List.set_cons_zero, List.set_cons_succ]
  refine h_pure 2 (some 10) (.pointer (some ⟨b, 13, none⟩)) rfl (by kernel_rfl) (by kernel_rfl) (by kernel_rfl) (by kernel_rfl) (fun _ _ _ h => h) (by kernel_rfl) (fun w e => by go_simp) ((Chg.refl _ _).drew) ?_
  simp only [Act.put, List.setIfInBounds_toArray, List.set_cons_zero, List.set_cons_succ]
  refine h_pure 3 (some 11) (.slice A l.length cl) rfl (by kernel_rfl) (by kernel_rfl) (by kernel_rfl) (by kernel_rfl) (fun _ _ _ h => h) (by kernel_rfl) (fun w e => by have hq := (HP1.out.non e).cells.2.2.2.2.2; go_simp) ((Chg.refl _ _).drew) ?_
  simp only [Act.put, List.setIfInBounds_toArray, List.set_cons_zero, List.set_cons_succ]
  refine h_pure 4 (some 12) (.pointer (some ⟨b, 0, none⟩)) rfl (by kernel_rfl) (by kernel_rfl) (by kernel_rfl) (by kernel_rfl) (fun _ _ _ h => h) (by kernel_rfl) (fun w e => by go_simp) ((Chg.refl _ _).drew) ?_
  simp only [Act.put, List.setIfInBounds_toArray, List.set_cons_zero, List.set_cons_succ]
  refine h_load 5 (some 13) 38 (.tmp 3) w.heap.size 0 #[.int .u8 op, .int .u8 a, .int .u8 b2, .int .u8 c, .int .i64 n] _ rfl (by kernel_rfl) (by kernel_rfl) (by kernel_rfl) (by kernel_rfl) (by kernel_rfl) (fun _ _ _ h => h) (by kernel_rfl) (by kernel_rfl) (fun w h => row_range (blockN h HX.out)) Tryz.underlying38 rfl info_ins ((Chg.refl _ _).drew) ?_
  simp only [Act.put, List.setIfInBounds_toArray, List.set_cons_zero, List.set_cons_succ]
  refine h_one 6 (by kernel_rfl) rfl (by kernel_rfl) ?_
  intro K hK
  go_simp
  refine (address_ok b p _ op a b2 c n _ (HP1.out.non ((Chg.refl Non _).drew)) hb2 r hrg hn hrb).mono ?_
  rintro e y1 ⟨rfl, hg1⟩
  have HY1 := Lib.hid (((Chg.refl Non _).drew).then_non hg1)
  clear hg1
  refine hK.out _ _ HY1.out (fun _ => ?_)
  clear hK K
  refine h_one 7 (by kernel_rfl) rfl (by kernel_rfl) ?_
  intro K hK
  go_simp
  have hl := Load32_yes A l cl (r + n) _ (HR.out.non HY1.out) hlc hcm HT.out
  rw [HV.out] at hl
  refine hl.mono ?_
  rintro e y2 ⟨rfl, hg2⟩
  have HY1 := Lib.hid (HY1.out.then_non hg2)
  clear hg2
  refine hK.out _ _ HY1.out (fun _ => ?_)
  clear hK K
  refine h_pure 8 (some 7) (.tuple #[.int .u32 v, .int .i64 0]) rfl (by kernel_rfl) (by kernel_rfl) (by kernel_rfl) (by kernel_rfl) (fun _ _ _ h => h) (by kernel_rfl) (fun w e => by go_simp) HY1.out ?_
  simp only [Act.put, List.setIfInBounds_toArray, List.set_cons_zero, List.set_cons_succ]
  refine h_pure 9 (some 16) (.int .u32 v) rfl (by kernel_rfl) (by kernel_rfl) (by kernel_rfl) (by kernel_rfl) (fun _ _ _ h => h) (by kernel_rfl) (fun w e => by go_simp) HY1.out ?_
  simp only [Act.put, List.setIfInBounds_toArray, List.set_cons_zero, List.set_cons_succ]
  refine h_pure 10 (some 17) (.int .i64 0) rfl (by kernel_rfl) (by kernel_rfl) (by kernel_rfl) (by kernel_rfl) (fun _ _ _ h => h) (by kernel_rfl) (fun w e => by go_simp) HY1.out ?_
  simp only [Act.put, List.setIfInBounds_toArray, List.set_cons_zero, List.set_cons_succ]
  refine h_pure 11 (some 5) (.int .u32 v) rfl (by kernel_rfl) (by kernel_rfl) (by kernel_rfl) (by kernel_rfl) (fun _ _ _ h => h) (by kernel_rfl) (fun w e => by go_simp) HY1.out ?_
  simp only [Act.put, List.setIfInBounds_toArray, List.set_cons_zero, List.set_cons_succ]
  refine h_pure 12 (some 6) (.int .i64 0) rfl (by kernel_rfl) (by kernel_rfl) (by kernel_rfl) (by kernel_rfl) (fun _ _ _ h => h) (by kernel_rfl) (fun w e => by go_simp) HY1.out ?_
  simp only [Act.put, List.setIfInBounds_toArray, List.set_cons_zero, List.set_cons_succ]
  refine wpAnyH_done (by kernel_rfl) ?_ _
  have hg : Chg Non (w.alloc (.cells #[.int .u8 op, .int .u8 a, .int .u8 b2, .int .u8 c, .int .i64 n] 38)) y2.drew := HY1.out.drew
  have hp2 := HP1.out.non hg
  obtain ⟨⟨z, c0, c1, c2, c3, c4⟩, _⟩ := (Blk5.mk (blockN hg HX.out)).all
  go_wp2_with fail
  refine wp_region_still_tail 7 (by kernel_rfl) (by kernel_rfl) ?_
  simp only [List.take_succ_cons, List.take_zero, List.drop_succ_cons, List.drop_zero]
  change wpStill _ _ y2.drew (fun a' => wpList _ _ _ _ a' y2.drew) _ _
  generalize y2.drew = w2 at hg hp2 z c0 c1 c2 c3 c4 ⊢
  have HP2 := Lib.hid hp2
  have HG2 := Lib.hid (((Chg.refl Non w).alloc _).then_non hg)
  have hlt := hp2.lt
  have hf := hp2.frozen (3 + a)
  have hca := hp2.reg a ha
  have hwv : IntKind.u32.wrap (v : Int) = v := Go.IntWalk.u32_in _ (by omega)
  clear hp2 hg
  repeat still_step
  refine wpStill_nil ?_
  go_wp2_with fail
  go_ret
  exact ⟨rfl, HP2.out.setReg a v ha, HG2.out.non_then (setAt w2 b (3 + a) _)⟩
set_option maxRecDepth 100000 in
set_option maxHeartbeats 2000000 in
theorem loadWord_no (b : Nat) (p : Pt) (A : Option Addr) (l : List UInt8) (cl : Nat) (op a b2 c n r : Nat) (w : World) (hp : PartB w b p (.slice A l.length cl)) (hr : Rd w A l) (hlc : l.length ≤ cl) (hcm : cl ≤ maxLen) (ha : a < 8) (hb2 : b2 < 8) (hn : n < 65536) (hrg : p.g b2 = r) (hrb : r < 4294967296) (ht : there l (r + n) 4 = false) :
    Calls Tryz.prog 40 #[.pointer (some ⟨b, 0, none⟩), .agg #[.int .u8 op, .int .u8 a, .int .u8 b2, .int .u8 c, .int .i64 n]] w fun e w' => e = .returned (.bool false) ∧ PartB w' b p (.slice A l.length cl) ∧ Chg Non w w' := by
  have hai : (a : Int) < 8 := by omega
  have hlt0 := hp.lt
  have HP := Lib.hid hp
  have HP1 : Hid (PartB (w.alloc (.cells #[.int .u8 op, .int .u8 a, .int .u8 b2, .int .u8 c, .int .i64 n] 38)) b p (.slice A l.length cl)) := Lib.hid (hp.non ((Chg.refl Non w).alloc _))
  have HR := Lib.hid (hr.non ((Chg.refl Non w).alloc (.cells #[.int .u8 op, .int .u8 a, .int .u8 b2, .int .u8 c, .int .i64 n] 38)))
  have HX := Lib.hid (heap_alloc_new w (.cells #[.int .u8 op, .int .u8 a, .int .u8 b2, .int .u8 c, .int .i64 n] 38))
  have HT := Lib.hid ht
  clear hp hr ht
  go_enter Tryz.func40, Tryz.ntmps40
  go_wp2_with fail
  refine wp_region_held_drew (S := fun v => Chg Non (w.alloc (.cells #[.int .u8 op, .int .u8 a, .int .u8 b2, .int .u8 c, .int .i64 n] 38)) v) (by kernel_rfl) ((Chg.refl Non _).drew) (fun hHeld => ?_)
  clear hHeld
  refine h_pure 0 (some 8) (.pointer (some ⟨b, 0, none⟩)) rfl (by kernel_rfl) (by kernel_rfl) (by kernel_rfl) (by kernel_rfl) (fun _ _ _ h => h) (by kernel_rfl) (fun w e => by go_simp) ((Chg.refl _ _).drew) ?_
  simp only [Act.put, List.setIfInBounds_toArray, List.set_cons_zero, List.set_cons_succ]
  refine h_pure 1 (some 9) (.pointer (some ⟨b, 0, none⟩)) rfl (by kernel_rfl) (by kernel_rfl) (by kernel_rfl) (by kernel_rfl) (fun _ _ _ h => h) (by kernel_rfl) (fun w e => by go_simp) ((Chg.refl _ _).drew) ?_
  simp only [Act.put, List.setIfInBounds_toArray, List.set_cons_zero, List.set_cons_succ]
  refine h_pure 2 (some 10) (.pointer (some ⟨b, 13, none⟩)) rfl (by kernel_rfl) (by kernel_rfl) (by kernel_rfl) (by kernel_rfl) (fun _ _ _ h => h) (by kernel_rfl) (fun w e => by go_simp) ((Chg.refl _ _).drew) ?_
  simp only [Act.put, List.setIfInBounds_toArray, List.set_cons_zero, List.set_cons_succ]
  refine h_pure 3 (some 11) (.slice A l.length cl) rfl (by kernel_rfl) (by kernel_rfl) (by kernel_rfl) (by kernel_rfl) (fun _ _ _ h => h) (by kernel_rfl) (fun w e => by have hq := (HP1.out.non e).cells.2.2.2.2.2; go_simp) ((Chg.refl _ _).drew) ?_
  simp only [Act.put, List.setIfInBounds_toArray, List.set_cons_zero, List.set_cons_succ]
  refine h_pure 4 (some 12) (.pointer (some ⟨b, 0, none⟩)) rfl (by kernel_rfl) (by kernel_rfl) (by kernel_rfl) (by kernel_rfl) (fun _ _ _ h => h) (by kernel_rfl) (fun w e => by go_simp) ((Chg.refl _ _).drew) ?_
  simp only [Act.put, List.setIfInBounds_toArray, List.set_cons_zero, List.set_cons_succ]
  refine h_load 5 (some 13) 38 (.tmp 3) w.heap.size 0 #[.int .u8 op, .int .u8 a, .int .u8 b2, .int .u8 c, .int .i64 n] _ rfl (by kernel_rfl) (by kernel_rfl) (by kernel_rfl) (by kernel_rfl) (by kernel_rfl) (fun _ _ _ h => h) (by kernel_rfl) (by kernel_rfl) (fun w h => row_range (blockN h HX.out)) Tryz.underlying38 rfl info_ins ((Chg.refl _ _).drew) ?_
  simp only [Act.put, List.setIfInBounds_toArray, List.set_cons_zero, List.set_cons_succ]
  refine h_one 6 (by kernel_rfl) rfl (by kernel_rfl) ?_
  intro K hK
  go_simp
  refine (address_ok b p _ op a b2 c n _ (HP1.out.non ((Chg.refl Non _).drew)) hb2 r hrg hn hrb).mono ?_
  rintro e y1 ⟨rfl, hg1⟩
  have HY1 := Lib.hid (((Chg.refl Non _).drew).then_non hg1)
  clear hg1
  refine hK.out _ _ HY1.out (fun _ => ?_)
  clear hK K
  refine h_one 7 (by kernel_rfl) rfl (by kernel_rfl) ?_
  intro K hK
  go_simp
  refine (Load32_no A l cl (r + n) _ (by omega) HT.out).mono ?_
  rintro e y2 ⟨er, her, rfl, rfl⟩
  refine hK.out _ _ HY1.out (fun _ => ?_)
  clear hK K
  refine h_pure 8 (some 7) (.tuple #[.int .u32 0, .int .i64 er]) rfl (by kernel_rfl) (by kernel_rfl) (by kernel_rfl) (by kernel_rfl) (fun _ _ _ h => h) (by kernel_rfl) (fun w e => by go_simp) HY1.out ?_
  simp only [Act.put, List.setIfInBounds_toArray, List.set_cons_zero, List.set_cons_succ]
  refine h_pure 9 (some 16) (.int .u32 0) rfl (by kernel_rfl) (by kernel_rfl) (by kernel_rfl) (by kernel_rfl) (fun _ _ _ h => h) (by kernel_rfl) (fun w e => by go_simp) HY1.out ?_
  simp only [Act.put, List.setIfInBounds_toArray, List.set_cons_zero, List.set_cons_succ]
  refine h_pure 10 (some 17) (.int .i64 er) rfl (by kernel_rfl) (by kernel_rfl) (by kernel_rfl) (by kernel_rfl) (fun _ _ _ h => h) (by kernel_rfl) (fun w e => by go_simp) HY1.out ?_
  simp only [Act.put, List.setIfInBounds_toArray, List.set_cons_zero, List.set_cons_succ]
  refine h_pure 11 (some 5) (.int .u32 0) rfl (by kernel_rfl) (by kernel_rfl) (by kernel_rfl) (by kernel_rfl) (fun _ _ _ h => h) (by kernel_rfl) (fun w e => by go_simp) HY1.out ?_
  simp only [Act.put, List.setIfInBounds_toArray, List.set_cons_zero, List.set_cons_succ]
  refine h_pure 12 (some 6) (.int .i64 er) rfl (by kernel_rfl) (by kernel_rfl) (by kernel_rfl) (by kernel_rfl) (fun _ _ _ h => h) (by kernel_rfl) (fun w e => by go_simp) HY1.out ?_
  simp only [Act.put, List.setIfInBounds_toArray, List.set_cons_zero, List.set_cons_succ]
  refine wpAnyH_done (by kernel_rfl) ?_ _
  go_wp2_with fail
  go_ret
  exact ⟨rfl, HP1.out.non HY1.out, ((Chg.refl Non w).alloc _).then_non HY1.out⟩
set_option maxRecDepth 100000 in
set_option maxHeartbeats 2000000 in
theorem storeByte_yes (b : Nat) (p : Pt) (A : Option Addr) (l : List UInt8) (cl : Nat) (op a b2 c n r : Nat) (w : World) (hp : PartB w b p (.slice A l.length cl)) (hr : Rd w A l) (hlc : l.length ≤ cl) (hcm : cl ≤ maxLen) (ha : a < 8) (hb2 : b2 < 8) (hn : n < 65536) (hrg : p.g b2 = r) (hrb : r < 4294967296) (ra : Nat) (hra : p.g a = ra) (hrab : ra < 4294967296) (ht : there l (r + n) 1 = true) :
    Calls Tryz.prog 39 #[.pointer (some ⟨b, 0, none⟩), .agg #[.int .u8 op, .int .u8 a, .int .u8 b2, .int .u8 c, .int .i64 n]] w fun e w' => ∃ A2 c2, e = .returned (.bool true) ∧ PartB w' b p (.slice A2 l.length c2) ∧ l.length ≤ c2 ∧ c2 ≤ maxLen ∧ Own w.heap.size w' A2 (put l (r + n) ([UInt8.ofNat ra])) ∧ Chg (fun k => k = b) w w' := by
  have hai : (a : Int) < 8 := by omega
  have hlt0 := hp.lt
  have HP := Lib.hid hp
  have HP1 : Hid (PartB (w.alloc (.cells #[.int .u8 op, .int .u8 a, .int .u8 b2, .int .u8 c, .int .i64 n] 38)) b p (.slice A l.length cl)) := Lib.hid (hp.non ((Chg.refl Non w).alloc _))
  have HR := Lib.hid (hr.non ((Chg.refl Non w).alloc (.cells #[.int .u8 op, .int .u8 a, .int .u8 b2, .int .u8 c, .int .i64 n] 38)))
  have HX := Lib.hid (heap_alloc_new w (.cells #[.int .u8 op, .int .u8 a, .int .u8 b2, .int .u8 c, .int .i64 n] 38))
  have HT := Lib.hid ht
  obtain ⟨rb, hrb8⟩ : ∃ rb, ra % 256 = rb := ⟨_, rfl⟩
  have hrb256 : rb < 256 := by omega
  have hofb : UInt8.ofNat rb = UInt8.ofNat ra := by rw [← hrb8]; apply UInt8.toNat_inj.1; simp
  have HOb := Lib.hid hofb
  clear hofb
  clear hp hr ht
  go_enter Tryz.func39, Tryz.ntmps39
  go_wp2_with fail
  refine wp_region_held_drew (S := fun v => Chg Non (w.alloc (.cells #[.int .u8 op, .int .u8 a, .int .u8 b2, .int .u8 c, .int .i64 n] 38)) v) (by kernel_rfl) ((Chg.refl Non _).drew) (fun hHeld => ?_)
  clear hHeld
  refine h_pure 0 (some 8) (.pointer (some ⟨b, 0, none⟩)) rfl (by kernel_rfl) (by kernel_rfl) (by kernel_rfl) (by kernel_rfl) (fun _ _ _ h => h) (by kernel_rfl) (fun w e => by go_simp) ((Chg.refl _ _).drew) ?_
  simp only [Act.put, List.setIfInBounds_toArray, List.set_cons_zero, List.set_cons_succ]
  refine h_pure 1 (some 9) (.pointer (some ⟨b, 0, none⟩)) rfl (by kernel_rfl) (by kernel_rfl) (by kernel_rfl) (by kernel_rfl) (fun _ _ _ h => h) (by kernel_rfl) (fun w e => by go_simp) ((Chg.refl _ _).drew) ?_
  simp only [Act.put, List.setIfInBounds_toArray, List.set_cons_zero, List.set_cons_succ]
  refine h_pure 2 (some 10) (.pointer (some ⟨b, 13, none⟩)) rfl (by kernel_rfl) (by kernel_rfl) (by kernel_rfl) (by kernel_rfl) (fun _ _ _ h => h) (by kernel_rfl) (fun w e => by go_simp) ((Chg.refl _ _).drew) ?_
  simp only [Act.put, List.setIfInBounds_toArray, List.set_cons_zero, List.set_cons_succ]
  refine h_pure 3 (some 11) (.slice A l.length cl) rfl (by kernel_rfl) (by kernel_rfl) (by kernel_rfl) (by kernel_rfl) (fun _ _ _ h => h) (by kernel_rfl) (fun w e => by have hq := (HP1.out.non e).cells.2.2.2.2.2; go_simp) ((Chg.refl _ _).drew) ?_
  simp only [Act.put, List.setIfInBounds_toArray, List.set_cons_zero, List.set_cons_succ]
  refine h_pure 4 (some 12) (.pointer (some ⟨b, 0, none⟩)) rfl (by kernel_rfl) (by kernel_rfl) (by kernel_rfl) (by kernel_rfl) (fun _ _ _ h => h) (by kernel_rfl) (fun w e => by go_simp) ((Chg.refl _ _).drew) ?_
  simp only [Act.put, List.setIfInBounds_toArray, List.set_cons_zero, List.set_cons_succ]
  refine h_load 5 (some 13) 38 (.tmp 3) w.heap.size 0 #[.int .u8 op, .int .u8 a, .int .u8 b2, .int .u8 c, .int .i64 n] _ rfl (by kernel_rfl) (by kernel_rfl) (by kernel_rfl) (by kernel_rfl) (by kernel_rfl) (fun _ _ _ h => h) (by kernel_rfl) (by kernel_rfl) (fun w h => row_range (blockN h HX.out)) Tryz.underlying38 rfl info_ins ((Chg.refl _ _).drew) ?_
  simp only [Act.put, List.setIfInBounds_toArray, List.set_cons_zero, List.set_cons_succ]
  refine h_pure 7 (some 15) (.pointer (some ⟨b, 0, none⟩)) rfl (by kernel_rfl) (by kernel_rfl) (by kernel_rfl) (by kernel_rfl) (fun _ _ _ h => h) (by kernel_rfl) (fun w e => by go_simp) ((Chg.refl _ _).drew) ?_
  simp only [Act.put, List.setIfInBounds_toArray, List.set_cons_zero, List.set_cons_succ]
  refine h_pure 8 (some 16) (.pointer (some ⟨w.heap.size, 1, none⟩)) rfl (by kernel_rfl) (by kernel_rfl) (by kernel_rfl) (by kernel_rfl) (fun _ _ _ h => h) (by kernel_rfl) (fun w e => by go_simp) ((Chg.refl _ _).drew) ?_
  simp only [Act.put, List.setIfInBounds_toArray, List.set_cons_zero, List.set_cons_succ]
  refine h_pure 9 (some 17) (.int .u8 a) rfl (by kernel_rfl) (by kernel_rfl) (by kernel_rfl) (by kernel_rfl) (fun _ _ _ h => h) (by kernel_rfl) (fun w e => by obtain ⟨⟨_, _, hq, _⟩, _⟩ := (Blk5.mk (blockN e HX.out)).all; go_simp) ((Chg.refl _ _).drew) ?_
  simp only [Act.put, List.setIfInBounds_toArray, List.set_cons_zero, List.set_cons_succ]
  refine h_pure 10 (some 18) (.pointer (some ⟨b, 0, none⟩)) rfl (by kernel_rfl) (by kernel_rfl) (by kernel_rfl) (by kernel_rfl) (fun _ _ _ h => h) (by kernel_rfl) (fun w e => by go_simp) ((Chg.refl _ _).drew) ?_
  simp only [Act.put, List.setIfInBounds_toArray, List.set_cons_zero, List.set_cons_succ]
  refine h_pure 11 (some 19) (.pointer (some ⟨b, 3, none⟩)) rfl (by kernel_rfl) (by kernel_rfl) (by kernel_rfl) (by kernel_rfl) (fun _ _ _ h => h) (by kernel_rfl) (fun w e => by go_simp) ((Chg.refl _ _).drew) ?_
  simp only [Act.put, List.setIfInBounds_toArray, List.set_cons_zero, List.set_cons_succ]
  refine h_pure 12 (some 20) (.pointer (some ⟨b, 3 + a, none⟩)) rfl (by kernel_rfl) (by kernel_rfl) (by kernel_rfl) (by kernel_rfl) (fun _ _ _ h => h) (by kernel_rfl) (fun w e => by go_simp) ((Chg.refl _ _).drew) ?_
  simp only [Act.put, List.setIfInBounds_toArray, List.set_cons_zero, List.set_cons_succ]
  refine h_pure 13 (some 21) (.int .u32 ra) rfl (by kernel_rfl) (by kernel_rfl) (by kernel_rfl) (by kernel_rfl) (fun _ _ _ h => h) (by kernel_rfl) (fun w e => by have hq := (HP1.out.non e).reg a ha; rw [hra] at hq; go_simp) ((Chg.refl _ _).drew) ?_
  simp only [Act.put, List.setIfInBounds_toArray, List.set_cons_zero, List.set_cons_succ]
  refine h_pure 14 (some 22) (.int .u8 rb) rfl (by kernel_rfl) (by kernel_rfl) (by kernel_rfl) (by kernel_rfl) (fun _ _ _ h => h) (by kernel_rfl) (fun w e => by go_simp; rw [IntKind.wrap_u8]; omega) ((Chg.refl _ _).drew) ?_
  simp only [Act.put, List.setIfInBounds_toArray, List.set_cons_zero, List.set_cons_succ]
  refine h_one 6 (by kernel_rfl) rfl (by kernel_rfl) ?_
  intro K hK
  go_simp
  refine (address_ok b p _ op a b2 c n _ (HP1.out.non ((Chg.refl Non _).drew)) hb2 r hrg hn hrb).mono ?_
  rintro e y1 ⟨rfl, hg1⟩
  have HY1 := Lib.hid (((Chg.refl Non _).drew).then_non hg1)
  clear hg1
  refine hK.out _ _ HY1.out (fun _ => ?_)
  clear hK K
  refine h_one 15 (by kernel_rfl) rfl (by kernel_rfl) ?_
  intro K hK
  go_simp
  refine (Store_yes A l cl (r + n) rb _ hrb256 (HR.out.non HY1.out) hlc hcm HT.out).mono ?_
  rintro e y2 ⟨A2, c2, rfl, q1, q2, q3, q4⟩
  have HOw := Lib.hid (q3.mono (show w.heap.size ≤ _ by have h1 := HY1.out.size; simp at h1; omega))
  have HY1 := Lib.hid (HY1.out.then_non q4)
  clear q3 q4
  refine hK.out _ _ HY1.out (fun _ => ?_)
  clear hK K
  refine h_pure 16 (some 7) (.tuple #[.slice A2 l.length c2, .int .i64 0]) rfl (by kernel_rfl) (by kernel_rfl) (by kernel_rfl) (by kernel_rfl) (fun _ _ _ h => h) (by kernel_rfl) (fun w e => by go_simp) HY1.out ?_
  simp only [Act.put, List.setIfInBounds_toArray, List.set_cons_zero, List.set_cons_succ]
  refine h_pure 17 (some 24) (.slice A2 l.length c2) rfl (by kernel_rfl) (by kernel_rfl) (by kernel_rfl) (by kernel_rfl) (fun _ _ _ h => h) (by kernel_rfl) (fun w e => by go_simp) HY1.out ?_
  simp only [Act.put, List.setIfInBounds_toArray, List.set_cons_zero, List.set_cons_succ]
  refine h_pure 18 (some 25) (.int .i64 0) rfl (by kernel_rfl) (by kernel_rfl) (by kernel_rfl) (by kernel_rfl) (fun _ _ _ h => h) (by kernel_rfl) (fun w e => by go_simp) HY1.out ?_
  simp only [Act.put, List.setIfInBounds_toArray, List.set_cons_zero, List.set_cons_succ]
  refine h_pure 19 (some 5) (.slice A2 l.length c2) rfl (by kernel_rfl) (by kernel_rfl) (by kernel_rfl) (by kernel_rfl) (fun _ _ _ h => h) (by kernel_rfl) (fun w e => by go_simp) HY1.out ?_
  simp only [Act.put, List.setIfInBounds_toArray, List.set_cons_zero, List.set_cons_succ]
  refine h_pure 20 (some 6) (.int .i64 0) rfl (by kernel_rfl) (by kernel_rfl) (by kernel_rfl) (by kernel_rfl) (fun _ _ _ h => h) (by kernel_rfl) (fun w e => by go_simp) HY1.out ?_
  simp only [Act.put, List.setIfInBounds_toArray, List.set_cons_zero, List.set_cons_succ]
  refine wpAnyH_done (by kernel_rfl) ?_ _
  have HP2 := Lib.hid (HP1.out.non HY1.out)
  have HG2 := Lib.hid (((Chg.refl Non w).alloc _).then_non HY1.out)
  have hc13 := HP2.out.cells.2.2.2.2.2
  have hlt := HP2.out.lt
  have hf := HP2.out.frozen 13
  go_wp2_with fail
  go_ret
  refine ⟨A2, c2, rfl, HP2.out.setMem _, q1, q2, ?_, HG2.out.non_then (setAt y2 b 13 _)⟩
  have ho := HOw.out.keep (setAt y2 b 13 (.slice A2 l.length c2)) (fun b' o' e1 e2 e3 e4 => by have := e2; omega) ; rw [HOb.out] at ho
  exact ho
set_option maxRecDepth 100000 in
set_option maxHeartbeats 2000000 in
theorem storeByte_no (b : Nat) (p : Pt) (A : Option Addr) (l : List UInt8) (cl : Nat) (op a b2 c n r : Nat) (w : World) (hp : PartB w b p (.slice A l.length cl)) (hr : Rd w A l) (hlc : l.length ≤ cl) (hcm : cl ≤ maxLen) (ha : a < 8) (hb2 : b2 < 8) (hn : n < 65536) (hrg : p.g b2 = r) (hrb : r < 4294967296) (ra : Nat) (hra : p.g a = ra) (hrab : ra < 4294967296) (ht : there l (r + n) 1 = false) :
    Calls Tryz.prog 39 #[.pointer (some ⟨b, 0, none⟩), .agg #[.int .u8 op, .int .u8 a, .int .u8 b2, .int .u8 c, .int .i64 n]] w fun e w' => e = .returned (.bool false) ∧ PartB w' b p (.slice A l.length cl) ∧ Chg Non w w' := by
  have hai : (a : Int) < 8 := by omega
  have hlt0 := hp.lt
  have HP := Lib.hid hp
  have HP1 : Hid (PartB (w.alloc (.cells #[.int .u8 op, .int .u8 a, .int .u8 b2, .int .u8 c, .int .i64 n] 38)) b p (.slice A l.length cl)) := Lib.hid (hp.non ((Chg.refl Non w).alloc _))
  have HR := Lib.hid (hr.non ((Chg.refl Non w).alloc (.cells #[.int .u8 op, .int .u8 a, .int .u8 b2, .int .u8 c, .int .i64 n] 38)))
  have HX := Lib.hid (heap_alloc_new w (.cells #[.int .u8 op, .int .u8 a, .int .u8 b2, .int .u8 c, .int .i64 n] 38))
  have HT := Lib.hid ht
  obtain ⟨rb, hrb8⟩ : ∃ rb, ra % 256 = rb := ⟨_, rfl⟩
  have hrb256 : rb < 256 := by omega
  have hofb : UInt8.ofNat rb = UInt8.ofNat ra := by rw [← hrb8]; apply UInt8.toNat_inj.1; simp
  have HOb := Lib.hid hofb
  clear hofb
  clear hp hr ht
  go_enter Tryz.func39, Tryz.ntmps39
  go_wp2_with fail
  refine wp_region_held_drew (S := fun v => Chg Non (w.alloc (.cells #[.int .u8 op, .int .u8 a, .int .u8 b2, .int .u8 c, .int .i64 n] 38)) v) (by kernel_rfl) ((Chg.refl Non _).drew) (fun hHeld => ?_)
  clear hHeld
  refine h_pure 0 (some 8) (.pointer (some ⟨b, 0, none⟩)) rfl (by kernel_rfl) (by kernel_rfl) (by kernel_rfl) (by kernel_rfl) (fun _ _ _ h => h) (by kernel_rfl) (fun w e => by go_simp) ((Chg.refl _ _).drew) ?_
  simp only [Act.put, List.setIfInBounds_toArray, List.set_cons_zero, List.set_cons_succ]
  refine h_pure 1 (some 9) (.pointer (some ⟨b, 0, none⟩)) rfl (by kernel_rfl) (by kernel_rfl) (by kernel_rfl) (by kernel_rfl) (fun _ _ _ h => h) (by kernel_rfl) (fun w e => by go_simp) ((Chg.refl _ _).drew) ?_
  simp only [Act.put, List.setIfInBounds_toArray, List.set_cons_zero, List.set_cons_succ]
  refine h_pure 2 (some 10) (.pointer (some ⟨b, 13, none⟩)) rfl (by kernel_rfl) (by kernel_rfl) (by kernel_rfl) (by kernel_rfl) (fun _ _ _ h => h) (by kernel_rfl) (fun w e => by go_simp) ((Chg.refl _ _).drew) ?_
  simp only [Act.put, List.setIfInBounds_toArray, List.set_cons_zero, List.set_cons_succ]
  refine h_pure 3 (some 11) (.slice A l.length cl) rfl (by kernel_rfl) (by kernel_rfl) (by kernel_rfl) (by kernel_rfl) (fun _ _ _ h => h) (by kernel_rfl) (fun w e => by have hq := (HP1.out.non e).cells.2.2.2.2.2; go_simp) ((Chg.refl _ _).drew) ?_
  simp only [Act.put, List.setIfInBounds_toArray, List.set_cons_zero, List.set_cons_succ]
  refine h_pure 4 (some 12) (.pointer (some ⟨b, 0, none⟩)) rfl (by kernel_rfl) (by kernel_rfl) (by kernel_rfl) (by kernel_rfl) (fun _ _ _ h => h) (by kernel_rfl) (fun w e => by go_simp) ((Chg.refl _ _).drew) ?_
  simp only [Act.put, List.setIfInBounds_toArray, List.set_cons_zero, List.set_cons_succ]
  refine h_load 5 (some 13) 38 (.tmp 3) w.heap.size 0 #[.int .u8 op, .int .u8 a, .int .u8 b2, .int .u8 c, .int .i64 n] _ rfl (by kernel_rfl) (by kernel_rfl) (by kernel_rfl) (by kernel_rfl) (by kernel_rfl) (fun _ _ _ h => h) (by kernel_rfl) (by kernel_rfl) (fun w h => row_range (blockN h HX.out)) Tryz.underlying38 rfl info_ins ((Chg.refl _ _).drew) ?_
  simp only [Act.put, List.setIfInBounds_toArray, List.set_cons_zero, List.set_cons_succ]
  refine h_pure 7 (some 15) (.pointer (some ⟨b, 0, none⟩)) rfl (by kernel_rfl) (by kernel_rfl) (by kernel_rfl) (by kernel_rfl) (fun _ _ _ h => h) (by kernel_rfl) (fun w e => by go_simp) ((Chg.refl _ _).drew) ?_
  simp only [Act.put, List.setIfInBounds_toArray, List.set_cons_zero, List.set_cons_succ]
  refine h_pure 8 (some 16) (.pointer (some ⟨w.heap.size, 1, none⟩)) rfl (by kernel_rfl) (by kernel_rfl) (by kernel_rfl) (by kernel_rfl) (fun _ _ _ h => h) (by kernel_rfl) (fun w e => by go_simp) ((Chg.refl _ _).drew) ?_
  simp only [Act.put, List.setIfInBounds_toArray, List.set_cons_zero, List.set_cons_succ]
  refine h_pure 9 (some 17) (.int .u8 a) rfl (by kernel_rfl) (by kernel_rfl) (by kernel_rfl) (by kernel_rfl) (fun _ _ _ h => h) (by kernel_rfl) (fun w e => by obtain ⟨⟨_, _, hq, _⟩, _⟩ := (Blk5.mk (blockN e HX.out)).all; go_simp) ((Chg.refl _ _).drew) ?_
  simp only [Act.put, List.setIfInBounds_toArray, List.set_cons_zero, List.set_cons_succ]
  refine h_pure 10 (some 18) (.pointer (some ⟨b, 0, none⟩)) rfl (by kernel_rfl) (by kernel_rfl) (by kernel_rfl) (by kernel_rfl) (fun _ _ _ h => h) (by kernel_rfl) (fun w e => by go_simp) ((Chg.refl _ _).drew) ?_
  simp only [Act.put, List.setIfInBounds_toArray, List.set_cons_zero, List.set_cons_succ]
  refine h_pure 11 (some 19) (.pointer (some ⟨b, 3, none⟩)) rfl (by kernel_rfl) (by kernel_rfl) (by kernel_rfl) (by kernel_rfl) (fun _ _ _ h => h) (by kernel_rfl) (fun w e => by go_simp) ((Chg.refl _ _).drew) ?_
  simp only [Act.put, List.setIfInBounds_toArray, List.set_cons_zero, List.set_cons_succ]
  refine h_pure 12 (some 20) (.pointer (some ⟨b, 3 + a, none⟩)) rfl (by kernel_rfl) (by kernel_rfl) (by kernel_rfl) (by kernel_rfl) (fun _ _ _ h => h) (by kernel_rfl) (fun w e => by go_simp) ((Chg.refl _ _).drew) ?_
  simp only [Act.put, List.setIfInBounds_toArray, List.set_cons_zero, List.set_cons_succ]
  refine h_pure 13 (some 21) (.int .u32 ra) rfl (by kernel_rfl) (by kernel_rfl) (by kernel_rfl) (by kernel_rfl) (fun _ _ _ h => h) (by kernel_rfl) (fun w e => by have hq := (HP1.out.non e).reg a ha; rw [hra] at hq; go_simp) ((Chg.refl _ _).drew) ?_
  simp only [Act.put, List.setIfInBounds_toArray, List.set_cons_zero, List.set_cons_succ]
  refine h_pure 14 (some 22) (.int .u8 rb) rfl (by kernel_rfl) (by kernel_rfl) (by kernel_rfl) (by kernel_rfl) (fun _ _ _ h => h) (by kernel_rfl) (fun w e => by go_simp; rw [IntKind.wrap_u8]; omega) ((Chg.refl _ _).drew) ?_
  simp only [Act.put, List.setIfInBounds_toArray, List.set_cons_zero, List.set_cons_succ]
  refine h_one 6 (by kernel_rfl) rfl (by kernel_rfl) ?_
  intro K hK
  go_simp
  refine (address_ok b p _ op a b2 c n _ (HP1.out.non ((Chg.refl Non _).drew)) hb2 r hrg hn hrb).mono ?_
  rintro e y1 ⟨rfl, hg1⟩
  have HY1 := Lib.hid (((Chg.refl Non _).drew).then_non hg1)
  clear hg1
  refine hK.out _ _ HY1.out (fun _ => ?_)
  clear hK K
  refine h_one 15 (by kernel_rfl) rfl (by kernel_rfl) ?_
  intro K hK
  go_simp
  refine (Store_no A l cl (r + n) rb _ (by omega) HT.out).mono ?_
  rintro e y2 ⟨er, her, rfl, q4⟩
  have HY1 := Lib.hid (HY1.out.then_non q4)
  clear q4
  refine hK.out _ _ HY1.out (fun _ => ?_)
  clear hK K
  refine h_pure 16 (some 7) (.tuple #[.slice none 0 0, .int .i64 er]) rfl (by kernel_rfl) (by kernel_rfl) (by kernel_rfl) (by kernel_rfl) (fun _ _ _ h => h) (by kernel_rfl) (fun w e => by go_simp) HY1.out ?_
  simp only [Act.put, List.setIfInBounds_toArray, List.set_cons_zero, List.set_cons_succ]
  refine h_pure 17 (some 24) (.slice none 0 0) rfl (by kernel_rfl) (by kernel_rfl) (by kernel_rfl) (by kernel_rfl) (fun _ _ _ h => h) (by kernel_rfl) (fun w e => by go_simp) HY1.out ?_
  simp only [Act.put, List.setIfInBounds_toArray, List.set_cons_zero, List.set_cons_succ]
  refine h_pure 18 (some 25) (.int .i64 er) rfl (by kernel_rfl) (by kernel_rfl) (by kernel_rfl) (by kernel_rfl) (fun _ _ _ h => h) (by kernel_rfl) (fun w e => by go_simp) HY1.out ?_
  simp only [Act.put, List.setIfInBounds_toArray, List.set_cons_zero, List.set_cons_succ]
  refine h_pure 19 (some 5) (.slice none 0 0) rfl (by kernel_rfl) (by kernel_rfl) (by kernel_rfl) (by kernel_rfl) (fun _ _ _ h => h) (by kernel_rfl) (fun w e => by go_simp) HY1.out ?_
  simp only [Act.put, List.setIfInBounds_toArray, List.set_cons_zero, List.set_cons_succ]
  refine h_pure 20 (some 6) (.int .i64 er) rfl (by kernel_rfl) (by kernel_rfl) (by kernel_rfl) (by kernel_rfl) (fun _ _ _ h => h) (by kernel_rfl) (fun w e => by go_simp) HY1.out ?_
  simp only [Act.put, List.setIfInBounds_toArray, List.set_cons_zero, List.set_cons_succ]
  refine wpAnyH_done (by kernel_rfl) ?_ _
  go_wp2_with fail
  go_ret
  exact ⟨rfl, HP1.out.non HY1.out, ((Chg.refl Non w).alloc _).then_non HY1.out⟩
set_option maxRecDepth 100000 in
set_option maxHeartbeats 2000000 in
theorem storeWord_yes (b : Nat) (p : Pt) (A : Option Addr) (l : List UInt8) (cl : Nat) (op a b2 c n r : Nat) (w : World) (hp : PartB w b p (.slice A l.length cl)) (hr : Rd w A l) (hlc : l.length ≤ cl) (hcm : cl ≤ maxLen) (ha : a < 8) (hb2 : b2 < 8) (hn : n < 65536) (hrg : p.g b2 = r) (hrb : r < 4294967296) (ra : Nat) (hra : p.g a = ra) (hrab : ra < 4294967296) (ht : there l (r + n) 4 = true) :
    Calls Tryz.prog 41 #[.pointer (some ⟨b, 0, none⟩), .agg #[.int .u8 op, .int .u8 a, .int .u8 b2, .int .u8 c, .int .i64 n]] w fun e w' => ∃ A2 c2, e = .returned (.bool true) ∧ PartB w' b p (.slice A2 l.length c2) ∧ l.length ≤ c2 ∧ c2 ≤ maxLen ∧ Own w.heap.size w' A2 (put l (r + n) (word32 ra)) ∧ Chg (fun k => k = b) w w' := by
  have hai : (a : Int) < 8 := by omega
  have hlt0 := hp.lt
  have HP := Lib.hid hp
  have HP1 : Hid (PartB (w.alloc (.cells #[.int .u8 op, .int .u8 a, .int .u8 b2, .int .u8 c, .int .i64 n] 38)) b p (.slice A l.length cl)) := Lib.hid (hp.non ((Chg.refl Non w).alloc _))
  have HR := Lib.hid (hr.non ((Chg.refl Non w).alloc (.cells #[.int .u8 op, .int .u8 a, .int .u8 b2, .int .u8 c, .int .i64 n] 38)))
  have HX := Lib.hid (heap_alloc_new w (.cells #[.int .u8 op, .int .u8 a, .int .u8 b2, .int .u8 c, .int .i64 n] 38))
  have HT := Lib.hid ht
  clear hp hr ht
  go_enter Tryz.func41, Tryz.ntmps41
  go_wp2_with fail
  refine wp_region_held_drew (S := fun v => Chg Non (w.alloc (.cells #[.int .u8 op, .int .u8 a, .int .u8 b2, .int .u8 c, .int .i64 n] 38)) v) (by kernel_rfl) ((Chg.refl Non _).drew) (fun hHeld => ?_)
  clear hHeld
  refine h_pure 0 (some 8) (.pointer (some ⟨b, 0, none⟩)) rfl (by kernel_rfl) (by kernel_rfl) (by kernel_rfl) (by kernel_rfl) (fun _ _ _ h => h) (by kernel_rfl) (fun w e => by go_simp) ((Chg.refl _ _).drew) ?_
  simp only [Act.put, List.setIfInBounds_toArray, List.set_cons_zero, List.set_cons_succ]
  refine h_pure 1 (some 9) (.pointer (some ⟨b, 0, none⟩)) rfl (by kernel_rfl) (by kernel_rfl) (by kernel_rfl) (by kernel_rfl) (fun _ _ _ h => h) (by kernel_rfl) (fun w e => by go_simp) ((Chg.refl _ _).drew) ?_
  simp only [Act.put, List.setIfInBounds_toArray, List.set_cons_zero, List.set_cons_succ]
  refine h_pure 2 (some 10) (.pointer (some ⟨b, 13, none⟩)) rfl (by kernel_rfl) (by kernel_rfl) (by kernel_rfl) (by kernel_rfl) (fun _ _ _ h => h) (by kernel_rfl) (fun w e => by go_simp) ((Chg.refl _ _).drew) ?_
  simp only [Act.put, List.setIfInBounds_toArray, List.set_cons_zero, List.set_cons_succ]
  refine h_pure 3 (some 11) (.slice A l.length cl) rfl (by kernel_rfl) (by kernel_rfl) (by kernel_rfl) (by kernel_rfl) (fun _ _ _ h => h) (by kernel_rfl) (fun w e => by have hq := (HP1.out.non e).cells.2.2.2.2.2; go_simp) ((Chg.refl _ _).drew) ?_
  simp only [Act.put, List.setIfInBounds_toArray, List.set_cons_zero, List.set_cons_succ]
  refine h_pure 4 (some 12) (.pointer (some ⟨b, 0, none⟩)) rfl (by kernel_rfl) (by kernel_rfl) (by kernel_rfl) (by kernel_rfl) (fun _ _ _ h => h) (by kernel_rfl) (fun w e => by go_simp) ((Chg.refl _ _).drew) ?_
  simp only [Act.put, List.setIfInBounds_toArray, List.set_cons_zero, List.set_cons_succ]
  refine h_load 5 (some 13) 38 (.tmp 3) w.heap.size 0 #[.int .u8 op, .int .u8 a, .int .u8 b2, .int .u8 c, .int .i64 n] _ rfl (by kernel_rfl) (by kernel_rfl) (by kernel_rfl) (by kernel_rfl) (by kernel_rfl) (fun _ _ _ h => h) (by kernel_rfl) (by kernel_rfl) (fun w h => row_range (blockN h HX.out)) Tryz.underlying38 rfl info_ins ((Chg.refl _ _).drew) ?_
  simp only [Act.put, List.setIfInBounds_toArray, List.set_cons_zero, List.set_cons_succ]
  refine h_pure 7 (some 15) (.pointer (some ⟨b, 0, none⟩)) rfl (by kernel_rfl) (by kernel_rfl) (by kernel_rfl) (by kernel_rfl) (fun _ _ _ h => h) (by kernel_rfl) (fun w e => by go_simp) ((Chg.refl _ _).drew) ?_
  simp only [Act.put, List.setIfInBounds_toArray, List.set_cons_zero, List.set_cons_succ]
  refine h_pure 8 (some 16) (.pointer (some ⟨w.heap.size, 1, none⟩)) rfl (by kernel_rfl) (by kernel_rfl) (by kernel_rfl) (by kernel_rfl) (fun _ _ _ h => h) (by kernel_rfl) (fun w e => by go_simp) ((Chg.refl _ _).drew) ?_
  simp only [Act.put, List.setIfInBounds_toArray, List.set_cons_zero, List.set_cons_succ]
  refine h_pure 9 (some 17) (.int .u8 a) rfl (by kernel_rfl) (by kernel_rfl) (by kernel_rfl) (by kernel_rfl) (fun _ _ _ h => h) (by kernel_rfl) (fun w e => by obtain ⟨⟨_, _, hq, _⟩, _⟩ := (Blk5.mk (blockN e HX.out)).all; go_simp) ((Chg.refl _ _).drew) ?_
  simp only [Act.put, List.setIfInBounds_toArray, List.set_cons_zero, List.set_cons_succ]
  refine h_pure 10 (some 18) (.pointer (some ⟨b, 0, none⟩)) rfl (by kernel_rfl) (by kernel_rfl) (by kernel_rfl) (by kernel_rfl) (fun _ _ _ h => h) (by kernel_rfl) (fun w e => by go_simp) ((Chg.refl _ _).drew) ?_
  simp only [Act.put, List.setIfInBounds_toArray, List.set_cons_zero, List.set_cons_succ]
  refine h_pure 11 (some 19) (.pointer (some ⟨b, 3, none⟩)) rfl (by kernel_rfl) (by kernel_rfl) (by kernel_rfl) (by kernel_rfl) (fun _ _ _ h => h) (by kernel_rfl) (fun w e => by go_simp) ((Chg.refl _ _).drew) ?_
  simp only [Act.put, List.setIfInBounds_toArray, List.set_cons_zero, List.set_cons_succ]
  refine h_pure 12 (some 20) (.pointer (some ⟨b, 3 + a, none⟩)) rfl (by kernel_rfl) (by kernel_rfl) (by kernel_rfl) (by kernel_rfl) (fun _ _ _ h => h) (by kernel_rfl) (fun w e => by go_simp) ((Chg.refl _ _).drew) ?_
  simp only [Act.put, List.setIfInBounds_toArray, List.set_cons_zero, List.set_cons_succ]
  refine h_pure 13 (some 21) (.int .u32 ra) rfl (by kernel_rfl) (by kernel_rfl) (by kernel_rfl) (by kernel_rfl) (fun _ _ _ h => h) (by kernel_rfl) (fun w e => by have hq := (HP1.out.non e).reg a ha; rw [hra] at hq; go_simp) ((Chg.refl _ _).drew) ?_
  simp only [Act.put, List.setIfInBounds_toArray, List.set_cons_zero, List.set_cons_succ]
  refine h_one 6 (by kernel_rfl) rfl (by kernel_rfl) ?_
  intro K hK
  go_simp
  refine (address_ok b p _ op a b2 c n _ (HP1.out.non ((Chg.refl Non _).drew)) hb2 r hrg hn hrb).mono ?_
  rintro e y1 ⟨rfl, hg1⟩
  have HY1 := Lib.hid (((Chg.refl Non _).drew).then_non hg1)
  clear hg1
  refine hK.out _ _ HY1.out (fun _ => ?_)
  clear hK K
  refine h_one 14 (by kernel_rfl) rfl (by kernel_rfl) ?_
  intro K hK
  go_simp
  refine (Store32_yes A l cl (r + n) ra _ hrab (HR.out.non HY1.out) hlc hcm HT.out).mono ?_
  rintro e y2 ⟨A2, c2, rfl, q1, q2, q3, q4⟩
  have HOw := Lib.hid (q3.mono (show w.heap.size ≤ _ by have h1 := HY1.out.size; simp at h1; omega))
  have HY1 := Lib.hid (HY1.out.then_non q4)
  clear q3 q4
  refine hK.out _ _ HY1.out (fun _ => ?_)
  clear hK K
  refine h_pure 15 (some 7) (.tuple #[.slice A2 l.length c2, .int .i64 0]) rfl (by kernel_rfl) (by kernel_rfl) (by kernel_rfl) (by kernel_rfl) (fun _ _ _ h => h) (by kernel_rfl) (fun w e => by go_simp) HY1.out ?_
  simp only [Act.put, List.setIfInBounds_toArray, List.set_cons_zero, List.set_cons_succ]
  refine h_pure 16 (some 23) (.slice A2 l.length c2) rfl (by kernel_rfl) (by kernel_rfl) (by kernel_rfl) (by kernel_rfl) (fun _ _ _ h => h) (by kernel_rfl) (fun w e => by go_simp) HY1.out ?_
  simp only [Act.put, List.setIfInBounds_toArray, List.set_cons_zero, List.set_cons_succ]
  refine h_pure 17 (some 24) (.int .i64 0) rfl (by kernel_rfl) (by kernel_rfl) (by kernel_rfl) (by kernel_rfl) (fun _ _ _ h => h) (by kernel_rfl) (fun w e => by go_simp) HY1.out ?_
  simp only [Act.put, List.setIfInBounds_toArray, List.set_cons_zero, List.set_cons_succ]
  refine h_pure 18 (some 5) (.slice A2 l.length c2) rfl (by kernel_rfl) (by kernel_rfl) (by kernel_rfl) (by kernel_rfl) (fun _ _ _ h => h) (by kernel_rfl) (fun w e => by go_simp) HY1.out ?_
  simp only [Act.put, List.setIfInBounds_toArray, List.set_cons_zero, List.set_cons_succ]
  refine h_pure 19 (some 6) (.int .i64 0) rfl (by kernel_rfl) (by kernel_rfl) (by kernel_rfl) (by kernel_rfl) (fun _ _ _ h => h) (by kernel_rfl) (fun w e => by go_simp) HY1.out ?_
  simp only [Act.put, List.setIfInBounds_toArray, List.set_cons_zero, List.set_cons_succ]
  refine wpAnyH_done (by kernel_rfl) ?_ _
  have HP2 := Lib.hid (HP1.out.non HY1.out)
  have HG2 := Lib.hid (((Chg.refl Non w).alloc _).then_non HY1.out)
  have hc13 := HP2.out.cells.2.2.2.2.2
  have hlt := HP2.out.lt
  have hf := HP2.out.frozen 13
  go_wp2_with fail
  go_ret
  refine ⟨A2, c2, rfl, HP2.out.setMem _, q1, q2, ?_, HG2.out.non_then (setAt y2 b 13 _)⟩
  have ho := HOw.out.keep (setAt y2 b 13 (.slice A2 l.length c2)) (fun b' o' e1 e2 e3 e4 => by have := e2; omega)
  exact ho
set_option maxRecDepth 100000 in
set_option maxHeartbeats 2000000 in
theorem storeWord_no (b : Nat) (p : Pt) (A : Option Addr) (l : List UInt8) (cl : Nat) (op a b2 c n r : Nat) (w : World) (hp : PartB w b p (.slice A l.length cl)) (hr : Rd w A l) (hlc : l.length ≤ cl) (hcm : cl ≤ maxLen) (ha : a < 8) (hb2 : b2 < 8) (hn : n < 65536) (hrg : p.g b2 = r) (hrb : r < 4294967296) (ra : Nat) (hra : p.g a = ra) (hrab : ra < 4294967296) (ht : there l (r + n) 4 = false) :
    Calls Tryz.prog 41 #[.pointer (some ⟨b, 0, none⟩), .agg #[.int .u8 op, .int .u8 a, .int .u8 b2, .int .u8 c, .int .i64 n]] w fun e w' => e = .returned (.bool false) ∧ PartB w' b p (.slice A l.length cl) ∧ Chg Non w w' := by
  have hai : (a : Int) < 8 := by omega
  have hlt0 := hp.lt
  have HP := Lib.hid hp
  have HP1 : Hid (PartB (w.alloc (.cells #[.int .u8 op, .int .u8 a, .int .u8 b2, .int .u8 c, .int .i64 n] 38)) b p (.slice A l.length cl)) := Lib.hid (hp.non ((Chg.refl Non w).alloc _))
  have HR := Lib.hid (hr.non ((Chg.refl Non w).alloc (.cells #[.int .u8 op, .int .u8 a, .int .u8 b2, .int .u8 c, .int .i64 n] 38)))
  have HX := Lib.hid (heap_alloc_new w (.cells #[.int .u8 op, .int .u8 a, .int .u8 b2, .int .u8 c, .int .i64 n] 38))
  have HT := Lib.hid ht
  clear hp hr ht
  go_enter Tryz.func41, Tryz.ntmps41
  go_wp2_with fail
  refine wp_region_held_drew (S := fun v => Chg Non (w.alloc (.cells #[.int .u8 op, .int .u8 a, .int .u8 b2, .int .u8 c, .int .i64 n] 38)) v) (by kernel_rfl) ((Chg.refl Non _).drew) (fun hHeld => ?_)
  clear hHeld
  refine h_pure 0 (some 8) (.pointer (some ⟨b, 0, none⟩)) rfl (by kernel_rfl) (by kernel_rfl) (by kernel_rfl) (by kernel_rfl) (fun _ _ _ h => h) (by kernel_rfl) (fun w e => by go_simp) ((Chg.refl _ _).drew) ?_
  simp only [Act.put, List.setIfInBounds_toArray, List.set_cons_zero, List.set_cons_succ]
  refine h_pure 1 (some 9) (.pointer (some ⟨b, 0, none⟩)) rfl (by kernel_rfl) (by kernel_rfl) (by kernel_rfl) (by kernel_rfl) (fun _ _ _ h => h) (by kernel_rfl) (fun w e => by go_simp) ((Chg.refl _ _).drew) ?_
  simp only [Act.put, List.setIfInBounds_toArray, List.set_cons_zero, List.set_cons_succ]
  refine h_pure 2 (some 10) (.pointer (some ⟨b, 13, none⟩)) rfl (by kernel_rfl) (by kernel_rfl) (by kernel_rfl) (by kernel_rfl) (fun _ _ _ h => h) (by kernel_rfl) (fun w e => by go_simp) ((Chg.refl _ _).drew) ?_
  simp only [Act.put, List.setIfInBounds_toArray, List.set_cons_zero, List.set_cons_succ]
  refine h_pure 3 (some 11) (.slice A l.length cl) rfl (by kernel_rfl) (by kernel_rfl) (by kernel_rfl) (by kernel_rfl) (fun _ _ _ h => h) (by kernel_rfl) (fun w e => by have hq := (HP1.out.non e).cells.2.2.2.2.2; go_simp) ((Chg.refl _ _).drew) ?_
  simp only [Act.put, List.setIfInBounds_toArray, List.set_cons_zero, List.set_cons_succ]
  refine h_pure 4 (some 12) (.pointer (some ⟨b, 0, none⟩)) rfl (by kernel_rfl) (by kernel_rfl) (by kernel_rfl) (by kernel_rfl) (fun _ _ _ h => h) (by kernel_rfl) (fun w e => by go_simp) ((Chg.refl _ _).drew) ?_
  simp only [Act.put, List.setIfInBounds_toArray, List.set_cons_zero, List.set_cons_succ]
  refine h_load 5 (some 13) 38 (.tmp 3) w.heap.size 0 #[.int .u8 op, .int .u8 a, .int .u8 b2, .int .u8 c, .int .i64 n] _ rfl (by kernel_rfl) (by kernel_rfl) (by kernel_rfl) (by kernel_rfl) (by kernel_rfl) (fun _ _ _ h => h) (by kernel_rfl) (by kernel_rfl) (fun w h => row_range (blockN h HX.out)) Tryz.underlying38 rfl info_ins ((Chg.refl _ _).drew) ?_
  simp only [Act.put, List.setIfInBounds_toArray, List.set_cons_zero, List.set_cons_succ]
  refine h_pure 7 (some 15) (.pointer (some ⟨b, 0, none⟩)) rfl (by kernel_rfl) (by kernel_rfl) (by kernel_rfl) (by kernel_rfl) (fun _ _ _ h => h) (by kernel_rfl) (fun w e => by go_simp) ((Chg.refl _ _).drew) ?_
  simp only [Act.put, List.setIfInBounds_toArray, List.set_cons_zero, List.set_cons_succ]
  refine h_pure 8 (some 16) (.pointer (some ⟨w.heap.size, 1, none⟩)) rfl (by kernel_rfl) (by kernel_rfl) (by kernel_rfl) (by kernel_rfl) (fun _ _ _ h => h) (by kernel_rfl) (fun w e => by go_simp) ((Chg.refl _ _).drew) ?_
  simp only [Act.put, List.setIfInBounds_toArray, List.set_cons_zero, List.set_cons_succ]
  refine h_pure 9 (some 17) (.int .u8 a) rfl (by kernel_rfl) (by kernel_rfl) (by kernel_rfl) (by kernel_rfl) (fun _ _ _ h => h) (by kernel_rfl) (fun w e => by obtain ⟨⟨_, _, hq, _⟩, _⟩ := (Blk5.mk (blockN e HX.out)).all; go_simp) ((Chg.refl _ _).drew) ?_
  simp only [Act.put, List.setIfInBounds_toArray, List.set_cons_zero, List.set_cons_succ]
  refine h_pure 10 (some 18) (.pointer (some ⟨b, 0, none⟩)) rfl (by kernel_rfl) (by kernel_rfl) (by kernel_rfl) (by kernel_rfl) (fun _ _ _ h => h) (by kernel_rfl) (fun w e => by go_simp) ((Chg.refl _ _).drew) ?_
  simp only [Act.put, List.setIfInBounds_toArray, List.set_cons_zero, List.set_cons_succ]
  refine h_pure 11 (some 19) (.pointer (some ⟨b, 3, none⟩)) rfl (by kernel_rfl) (by kernel_rfl) (by kernel_rfl) (by kernel_rfl) (fun _ _ _ h => h) (by kernel_rfl) (fun w e => by go_simp) ((Chg.refl _ _).drew) ?_
  simp only [Act.put, List.setIfInBounds_toArray, List.set_cons_zero, List.set_cons_succ]
  refine h_pure 12 (some 20) (.pointer (some ⟨b, 3 + a, none⟩)) rfl (by kernel_rfl) (by kernel_rfl) (by kernel_rfl) (by kernel_rfl) (fun _ _ _ h => h) (by kernel_rfl) (fun w e => by go_simp) ((Chg.refl _ _).drew) ?_
  simp only [Act.put, List.setIfInBounds_toArray, List.set_cons_zero, List.set_cons_succ]
  refine h_pure 13 (some 21) (.int .u32 ra) rfl (by kernel_rfl) (by kernel_rfl) (by kernel_rfl) (by kernel_rfl) (fun _ _ _ h => h) (by kernel_rfl) (fun w e => by have hq := (HP1.out.non e).reg a ha; rw [hra] at hq; go_simp) ((Chg.refl _ _).drew) ?_
  simp only [Act.put, List.setIfInBounds_toArray, List.set_cons_zero, List.set_cons_succ]
  refine h_one 6 (by kernel_rfl) rfl (by kernel_rfl) ?_
  intro K hK
  go_simp
  refine (address_ok b p _ op a b2 c n _ (HP1.out.non ((Chg.refl Non _).drew)) hb2 r hrg hn hrb).mono ?_
  rintro e y1 ⟨rfl, hg1⟩
  have HY1 := Lib.hid (((Chg.refl Non _).drew).then_non hg1)
  clear hg1
  refine hK.out _ _ HY1.out (fun _ => ?_)
  clear hK K
  refine h_one 14 (by kernel_rfl) rfl (by kernel_rfl) ?_
  intro K hK
  go_simp
  refine (Store32_no A l cl (r + n) ra _ hrab (by omega) HT.out).mono ?_
  rintro e y2 ⟨er, her, rfl, q4⟩
  have HY1 := Lib.hid (HY1.out.then_non q4)
  clear q4
  refine hK.out _ _ HY1.out (fun _ => ?_)
  clear hK K
  refine h_pure 15 (some 7) (.tuple #[.slice none 0 0, .int .i64 er]) rfl (by kernel_rfl) (by kernel_rfl) (by kernel_rfl) (by kernel_rfl) (fun _ _ _ h => h) (by kernel_rfl) (fun w e => by go_simp) HY1.out ?_
  simp only [Act.put, List.setIfInBounds_toArray, List.set_cons_zero, List.set_cons_succ]
  refine h_pure 16 (some 23) (.slice none 0 0) rfl (by kernel_rfl) (by kernel_rfl) (by kernel_rfl) (by kernel_rfl) (fun _ _ _ h => h) (by kernel_rfl) (fun w e => by go_simp) HY1.out ?_
  simp only [Act.put, List.setIfInBounds_toArray, List.set_cons_zero, List.set_cons_succ]
  refine h_pure 17 (some 24) (.int .i64 er) rfl (by kernel_rfl) (by kernel_rfl) (by kernel_rfl) (by kernel_rfl) (fun _ _ _ h => h) (by kernel_rfl) (fun w e => by go_simp) HY1.out ?_
  simp only [Act.put, List.setIfInBounds_toArray, List.set_cons_zero, List.set_cons_succ]
  refine h_pure 18 (some 5) (.slice none 0 0) rfl (by kernel_rfl) (by kernel_rfl) (by kernel_rfl) (by kernel_rfl) (fun _ _ _ h => h) (by kernel_rfl) (fun w e => by go_simp) HY1.out ?_
  simp only [Act.put, List.setIfInBounds_toArray, List.set_cons_zero, List.set_cons_succ]
  refine h_pure 19 (some 6) (.int .i64 er) rfl (by kernel_rfl) (by kernel_rfl) (by kernel_rfl) (by kernel_rfl) (fun _ _ _ h => h) (by kernel_rfl) (fun w e => by go_simp) HY1.out ?_
  simp only [Act.put, List.setIfInBounds_toArray, List.set_cons_zero, List.set_cons_succ]
  refine wpAnyH_done (by kernel_rfl) ?_ _
  go_wp2_with fail
  go_ret
  exact ⟨rfl, HP1.out.non HY1.out, ((Chg.refl Non w).alloc _).then_non HY1.out⟩

theorem nm_jmp : ∀ k, k < 22 → ((opAt k).name == [106, 109, 112]) = decide (k = 17) := by decide +kernel
theorem nm_jz : ∀ k, k < 22 → ((opAt k).name == [106, 122]) = decide (k = 18) := by decide +kernel
theorem nm_jnz : ∀ k, k < 22 → ((opAt k).name == [106, 110, 122]) = decide (k = 19) := by decide +kernel
theorem nm_call : ∀ k, k < 22 → ((opAt k).name == [99, 97, 108, 108]) = decide (k = 20) := by decide +kernel
set_option maxRecDepth 100000 in
set_option maxHeartbeats 1000000 in
theorem jumps_17 (b : Nat) (p : Pt) (m : Value) (op a b2 c n : Nat) (w : World) (hp : PartB w b p m) (ho : op < 22) (ha : a < 8) (hop : op = 17) :
    Calls Tryz.prog 21 #[.pointer (some ⟨b, 0, none⟩), .agg #[.int .u8 op, .int .u8 a, .int .u8 b2, .int .u8 c, .int .i64 n]] w fun e w' => e = .returned (.bool (true)) ∧ Chg Non w w' := by
  have hai : (a : Int) < 8 := by omega
  have q1 := nm_jmp op ho
  have q2 := nm_jz op ho
  have q3 := nm_jnz op ho
  obtain ⟨N, hN⟩ : ∃ N, (opAt op).name = N := ⟨_, rfl⟩
  have HNm : Hid (∀ W, Calls Tryz.prog 17 #[.int .u8 op] W fun e w' => e = .returned (.string ⟨N.toArray⟩) ∧ Chg Non W w') := Lib.hid (fun W => by have h := Name_ok op W; rw [hN] at h; exact h)
  have HP := Lib.hid hp
  rw [hN] at q1 q2 q3
  subst hop
  rw [show decide (17 = 17) = true from rfl] at q1
  rw [show decide (17 = 18) = false from rfl] at q2
  rw [show decide (17 = 19) = false from rfl] at q3
  clear hN hp
  go_enter Tryz.func21, Tryz.ntmps21
  go_wp2_with fail
  refine (HNm.out _).mono ?_
  rintro e y1 ⟨rfl, hg⟩
  have hp2 := HP.out.non (((Chg.refl Non w).alloc _).then_non hg)
  have HG := Lib.hid (((Chg.refl Non w).alloc _).then_non hg)
  have HX := Lib.hid (blockN hg (heap_alloc_new w _))
  clear hg
  clear hp2
  go_wp2_with fail
  go_ret
  exact ⟨rfl, HG.out⟩
set_option maxRecDepth 100000 in
set_option maxHeartbeats 1000000 in
theorem jumps_18 (b : Nat) (p : Pt) (m : Value) (op a b2 c n : Nat) (w : World) (hp : PartB w b p m) (ho : op < 22) (ha : a < 8) (hop : op = 18) (r : Nat) (hr : p.g a = r) :
    Calls Tryz.prog 21 #[.pointer (some ⟨b, 0, none⟩), .agg #[.int .u8 op, .int .u8 a, .int .u8 b2, .int .u8 c, .int .i64 n]] w fun e w' => e = .returned (.bool (((r : Int) == 0))) ∧ Chg Non w w' := by
  have hai : (a : Int) < 8 := by omega
  have q1 := nm_jmp op ho
  have q2 := nm_jz op ho
  have q3 := nm_jnz op ho
  obtain ⟨N, hN⟩ : ∃ N, (opAt op).name = N := ⟨_, rfl⟩
  have HNm : Hid (∀ W, Calls Tryz.prog 17 #[.int .u8 op] W fun e w' => e = .returned (.string ⟨N.toArray⟩) ∧ Chg Non W w') := Lib.hid (fun W => by have h := Name_ok op W; rw [hN] at h; exact h)
  have HP := Lib.hid hp
  rw [hN] at q1 q2 q3
  subst hop
  rw [show decide (18 = 17) = false from rfl] at q1
  rw [show decide (18 = 18) = true from rfl] at q2
  rw [show decide (18 = 19) = false from rfl] at q3
  clear hN hp
  go_enter Tryz.func21, Tryz.ntmps21
  go_wp2_with fail
  refine (HNm.out _).mono ?_
  rintro e y1 ⟨rfl, hg⟩
  have hp2 := HP.out.non (((Chg.refl Non w).alloc _).then_non hg)
  have HG := Lib.hid (((Chg.refl Non w).alloc _).then_non hg)
  have HX := Lib.hid (blockN hg (heap_alloc_new w _))
  clear hg
  have hca := hp2.reg a ha
  rw [hr] at hca
  obtain ⟨⟨z, c0, c1, c2, c3, c4⟩, _⟩ := (Blk5.mk HX.out).all
  clear hp2
  go_wp2_with fail
  refine wp_region_held_drew (S := fun W => W.cell? ⟨w.heap.size, 1, none⟩ = some (.int .u8 a) ∧ W.cell? ⟨b, 3 + a, none⟩ = some (.int .u32 r)) (by kernel_rfl) ⟨c1, hca⟩ (fun hHeld => ?_)
  refine h_pure 0 (some 12) (.pointer (some ⟨b, 0, none⟩)) rfl (by kernel_rfl) (by kernel_rfl) (by kernel_rfl) (by kernel_rfl) (fun _ _ _ h => h) (by kernel_rfl) (fun W hW => by obtain ⟨e1, e2⟩ := hW; go_simp) hHeld ?_
  simp only [Act.put, List.setIfInBounds_toArray, List.set_cons_zero, List.set_cons_succ]
  refine h_pure 1 (some 13) (.pointer (some ⟨w.heap.size, 1, none⟩)) rfl (by kernel_rfl) (by kernel_rfl) (by kernel_rfl) (by kernel_rfl) (fun _ _ _ h => h) (by kernel_rfl) (fun W hW => by obtain ⟨e1, e2⟩ := hW; go_simp) hHeld ?_
  simp only [Act.put, List.setIfInBounds_toArray, List.set_cons_zero, List.set_cons_succ]
  refine h_pure 2 (some 14) (.int .u8 a) rfl (by kernel_rfl) (by kernel_rfl) (by kernel_rfl) (by kernel_rfl) (fun _ _ _ h => h) (by kernel_rfl) (fun W hW => by obtain ⟨e1, e2⟩ := hW; go_simp) hHeld ?_
  simp only [Act.put, List.setIfInBounds_toArray, List.set_cons_zero, List.set_cons_succ]
  refine h_pure 3 (some 15) (.pointer (some ⟨b, 0, none⟩)) rfl (by kernel_rfl) (by kernel_rfl) (by kernel_rfl) (by kernel_rfl) (fun _ _ _ h => h) (by kernel_rfl) (fun W hW => by obtain ⟨e1, e2⟩ := hW; go_simp) hHeld ?_
  simp only [Act.put, List.setIfInBounds_toArray, List.set_cons_zero, List.set_cons_succ]
  refine h_pure 4 (some 16) (.pointer (some ⟨b, 3, none⟩)) rfl (by kernel_rfl) (by kernel_rfl) (by kernel_rfl) (by kernel_rfl) (fun _ _ _ h => h) (by kernel_rfl) (fun W hW => by obtain ⟨e1, e2⟩ := hW; go_simp) hHeld ?_
  simp only [Act.put, List.setIfInBounds_toArray, List.set_cons_zero, List.set_cons_succ]
  refine h_pure 5 (some 17) (.pointer (some ⟨b, 3 + a, none⟩)) rfl (by kernel_rfl) (by kernel_rfl) (by kernel_rfl) (by kernel_rfl) (fun _ _ _ h => h) (by kernel_rfl) (fun W hW => by obtain ⟨e1, e2⟩ := hW; go_simp) hHeld ?_
  simp only [Act.put, List.setIfInBounds_toArray, List.set_cons_zero, List.set_cons_succ]
  refine h_pure 6 (some 18) (.int .u32 r) rfl (by kernel_rfl) (by kernel_rfl) (by kernel_rfl) (by kernel_rfl) (fun _ _ _ h => h) (by kernel_rfl) (fun W hW => by obtain ⟨e1, e2⟩ := hW; go_simp) hHeld ?_
  simp only [Act.put, List.setIfInBounds_toArray, List.set_cons_zero, List.set_cons_succ]
  refine h_pure 7 (some 19) (.bool ((r : Int) == 0)) rfl (by kernel_rfl) (by kernel_rfl) (by kernel_rfl) (by kernel_rfl) (fun _ _ _ h => h) (by kernel_rfl) (fun W hW => by obtain ⟨e1, e2⟩ := hW; go_simp) hHeld ?_
  simp only [Act.put, List.setIfInBounds_toArray, List.set_cons_zero, List.set_cons_succ]
  refine h_pure 8 (some 4) (.bool ((r : Int) == 0)) rfl (by kernel_rfl) (by kernel_rfl) (by kernel_rfl) (by kernel_rfl) (fun _ _ _ h => h) (by kernel_rfl) (fun W hW => by obtain ⟨e1, e2⟩ := hW; go_simp) hHeld ?_
  simp only [Act.put, List.setIfInBounds_toArray, List.set_cons_zero, List.set_cons_succ]
  refine wpAnyH_done (by kernel_rfl) ?_ _
  go_wp2_with fail
  go_ret
  exact ⟨rfl, HG.out.drew⟩
set_option maxRecDepth 100000 in
set_option maxHeartbeats 1000000 in
theorem jumps_19 (b : Nat) (p : Pt) (m : Value) (op a b2 c n : Nat) (w : World) (hp : PartB w b p m) (ho : op < 22) (ha : a < 8) (hop : op = 19) (r : Nat) (hr : p.g a = r) :
    Calls Tryz.prog 21 #[.pointer (some ⟨b, 0, none⟩), .agg #[.int .u8 op, .int .u8 a, .int .u8 b2, .int .u8 c, .int .i64 n]] w fun e w' => e = .returned (.bool (((r : Int) != 0))) ∧ Chg Non w w' := by
  have hai : (a : Int) < 8 := by omega
  have q1 := nm_jmp op ho
  have q2 := nm_jz op ho
  have q3 := nm_jnz op ho
  obtain ⟨N, hN⟩ : ∃ N, (opAt op).name = N := ⟨_, rfl⟩
  have HNm : Hid (∀ W, Calls Tryz.prog 17 #[.int .u8 op] W fun e w' => e = .returned (.string ⟨N.toArray⟩) ∧ Chg Non W w') := Lib.hid (fun W => by have h := Name_ok op W; rw [hN] at h; exact h)
  have HP := Lib.hid hp
  rw [hN] at q1 q2 q3
  subst hop
  rw [show decide (19 = 17) = false from rfl] at q1
  rw [show decide (19 = 18) = false from rfl] at q2
  rw [show decide (19 = 19) = true from rfl] at q3
  clear hN hp
  go_enter Tryz.func21, Tryz.ntmps21
  go_wp2_with fail
  refine (HNm.out _).mono ?_
  rintro e y1 ⟨rfl, hg⟩
  have hp2 := HP.out.non (((Chg.refl Non w).alloc _).then_non hg)
  have HG := Lib.hid (((Chg.refl Non w).alloc _).then_non hg)
  have HX := Lib.hid (blockN hg (heap_alloc_new w _))
  clear hg
  have hca := hp2.reg a ha
  rw [hr] at hca
  obtain ⟨⟨z, c0, c1, c2, c3, c4⟩, _⟩ := (Blk5.mk HX.out).all
  clear hp2
  go_wp2_with fail
  refine wp_region_held_drew (S := fun W => W.cell? ⟨w.heap.size, 1, none⟩ = some (.int .u8 a) ∧ W.cell? ⟨b, 3 + a, none⟩ = some (.int .u32 r)) (by kernel_rfl) ⟨c1, hca⟩ (fun hHeld => ?_)
  refine h_pure 0 (some 22) (.pointer (some ⟨b, 0, none⟩)) rfl (by kernel_rfl) (by kernel_rfl) (by kernel_rfl) (by kernel_rfl) (fun _ _ _ h => h) (by kernel_rfl) (fun W hW => by obtain ⟨e1, e2⟩ := hW; go_simp) hHeld ?_
  simp only [Act.put, List.setIfInBounds_toArray, List.set_cons_zero, List.set_cons_succ]
  refine h_pure 1 (some 23) (.pointer (some ⟨w.heap.size, 1, none⟩)) rfl (by kernel_rfl) (by kernel_rfl) (by kernel_rfl) (by kernel_rfl) (fun _ _ _ h => h) (by kernel_rfl) (fun W hW => by obtain ⟨e1, e2⟩ := hW; go_simp) hHeld ?_
  simp only [Act.put, List.setIfInBounds_toArray, List.set_cons_zero, List.set_cons_succ]
  refine h_pure 2 (some 24) (.int .u8 a) rfl (by kernel_rfl) (by kernel_rfl) (by kernel_rfl) (by kernel_rfl) (fun _ _ _ h => h) (by kernel_rfl) (fun W hW => by obtain ⟨e1, e2⟩ := hW; go_simp) hHeld ?_
  simp only [Act.put, List.setIfInBounds_toArray, List.set_cons_zero, List.set_cons_succ]
  refine h_pure 3 (some 25) (.pointer (some ⟨b, 0, none⟩)) rfl (by kernel_rfl) (by kernel_rfl) (by kernel_rfl) (by kernel_rfl) (fun _ _ _ h => h) (by kernel_rfl) (fun W hW => by obtain ⟨e1, e2⟩ := hW; go_simp) hHeld ?_
  simp only [Act.put, List.setIfInBounds_toArray, List.set_cons_zero, List.set_cons_succ]
  refine h_pure 4 (some 26) (.pointer (some ⟨b, 3, none⟩)) rfl (by kernel_rfl) (by kernel_rfl) (by kernel_rfl) (by kernel_rfl) (fun _ _ _ h => h) (by kernel_rfl) (fun W hW => by obtain ⟨e1, e2⟩ := hW; go_simp) hHeld ?_
  simp only [Act.put, List.setIfInBounds_toArray, List.set_cons_zero, List.set_cons_succ]
  refine h_pure 5 (some 27) (.pointer (some ⟨b, 3 + a, none⟩)) rfl (by kernel_rfl) (by kernel_rfl) (by kernel_rfl) (by kernel_rfl) (fun _ _ _ h => h) (by kernel_rfl) (fun W hW => by obtain ⟨e1, e2⟩ := hW; go_simp) hHeld ?_
  simp only [Act.put, List.setIfInBounds_toArray, List.set_cons_zero, List.set_cons_succ]
  refine h_pure 6 (some 28) (.int .u32 r) rfl (by kernel_rfl) (by kernel_rfl) (by kernel_rfl) (by kernel_rfl) (fun _ _ _ h => h) (by kernel_rfl) (fun W hW => by obtain ⟨e1, e2⟩ := hW; go_simp) hHeld ?_
  simp only [Act.put, List.setIfInBounds_toArray, List.set_cons_zero, List.set_cons_succ]
  refine h_pure 7 (some 29) (.bool ((r : Int) != 0)) rfl (by kernel_rfl) (by kernel_rfl) (by kernel_rfl) (by kernel_rfl) (fun _ _ _ h => h) (by kernel_rfl) (fun W hW => by obtain ⟨e1, e2⟩ := hW; go_simp) hHeld ?_
  simp only [Act.put, List.setIfInBounds_toArray, List.set_cons_zero, List.set_cons_succ]
  refine h_pure 8 (some 4) (.bool ((r : Int) != 0)) rfl (by kernel_rfl) (by kernel_rfl) (by kernel_rfl) (by kernel_rfl) (fun _ _ _ h => h) (by kernel_rfl) (fun W hW => by obtain ⟨e1, e2⟩ := hW; go_simp) hHeld ?_
  simp only [Act.put, List.setIfInBounds_toArray, List.set_cons_zero, List.set_cons_succ]
  refine wpAnyH_done (by kernel_rfl) ?_ _
  go_wp2_with fail
  go_ret
  exact ⟨rfl, HG.out.drew⟩
set_option maxRecDepth 100000 in
set_option maxHeartbeats 1000000 in
theorem jumps_no (b : Nat) (p : Pt) (m : Value) (op a b2 c n : Nat) (w : World) (hp : PartB w b p m) (ho : op < 22) (ha : a < 8) (h17 : op ≠ 17) (h18 : op ≠ 18) (h19 : op ≠ 19) :
    Calls Tryz.prog 21 #[.pointer (some ⟨b, 0, none⟩), .agg #[.int .u8 op, .int .u8 a, .int .u8 b2, .int .u8 c, .int .i64 n]] w fun e w' => e = .returned (.bool (false)) ∧ Chg Non w w' := by
  have hai : (a : Int) < 8 := by omega
  have q1 := nm_jmp op ho
  have q2 := nm_jz op ho
  have q3 := nm_jnz op ho
  obtain ⟨N, hN⟩ : ∃ N, (opAt op).name = N := ⟨_, rfl⟩
  have HNm : Hid (∀ W, Calls Tryz.prog 17 #[.int .u8 op] W fun e w' => e = .returned (.string ⟨N.toArray⟩) ∧ Chg Non W w') := Lib.hid (fun W => by have h := Name_ok op W; rw [hN] at h; exact h)
  have HP := Lib.hid hp
  rw [hN] at q1 q2 q3
  rw [decide_eq_false h17] at q1
  rw [decide_eq_false h18] at q2
  rw [decide_eq_false h19] at q3
  clear hN hp
  go_enter Tryz.func21, Tryz.ntmps21
  go_wp2_with fail
  refine (HNm.out _).mono ?_
  rintro e y1 ⟨rfl, hg⟩
  have hp2 := HP.out.non (((Chg.refl Non w).alloc _).then_non hg)
  have HG := Lib.hid (((Chg.refl Non w).alloc _).then_non hg)
  have HX := Lib.hid (blockN hg (heap_alloc_new w _))
  clear hg
  clear hp2
  go_wp2_with fail
  go_ret
  exact ⟨rfl, HG.out⟩
theorem jumps_ok (b : Nat) (p : Pt) (m : Value) (op a b2 c n : Nat) (w : World) (hp : PartB w b p m) (ho : op < 22) (ha : a < 8) :
    Calls Tryz.prog 21 #[.pointer (some ⟨b, 0, none⟩), .agg #[.int .u8 op, .int .u8 a, .int .u8 b2, .int .u8 c, .int .i64 n]] w fun e w' => e = .returned (.bool (jumpsB ⟨op, a, b2, c, n⟩ p)) ∧ Chg Non w w' := by
  by_cases h17 : op = 17
  · rw [show jumpsB ⟨op, a, b2, c, n⟩ p = true by simp [jumpsB, h17]]
    exact jumps_17 b p m op a b2 c n w hp ho ha h17
  by_cases h18 : op = 18
  · rw [show jumpsB ⟨op, a, b2, c, n⟩ p = ((p.g a : Int) == 0) by simp only [jumpsB, h18]; rw [Bool.eq_iff_iff]; simp]
    exact jumps_18 b p m op a b2 c n w hp ho ha h18 _ rfl
  by_cases h19 : op = 19
  · rw [show jumpsB ⟨op, a, b2, c, n⟩ p = ((p.g a : Int) != 0) by simp only [jumpsB, h19]; rw [Bool.eq_iff_iff]; simp]
    exact jumps_19 b p m op a b2 c n w hp ho ha h19 _ rfl
  rw [show jumpsB ⟨op, a, b2, c, n⟩ p = false by simp [jumpsB, h17, h18, h19]]
  exact jumps_no b p m op a b2 c n w hp ho ha h17 h18 h19

theorem partC_one (p : Pt) (m : Value) (hm : m.oneCell' = true) : (partC p m).all (·.oneCell') = true := by
  simp only [partC, partL, List.all_toArray]
  rw [List.all_eq_true]
  intro v hv
  simp only [List.mem_cons, List.mem_append, List.mem_map, List.not_mem_nil, or_false] at hv
  rcases hv with rfl | rfl | rfl | ⟨n, _, rfl⟩ | rfl | rfl | rfl
  all_goals first | rfl | exact hm
def zeroPart : Array Value := #[.int .i64 0, .int .i64 0, .bool false, .int .u32 0, .int .u32 0, .int .u32 0, .int .u32 0, .int .u32 0, .int .u32 0, .int .u32 0, .int .u32 0, .int .u32 0, .int .u8 0, .slice none 0 0]
set_option maxRecDepth 100000 in
set_option maxHeartbeats 1000000 in
theorem Copy_ok (p : Pt) (A : Option Addr) (l : List UInt8) (c : Nat) (w : World) (h8 : p.r.length = 8) (hr : Rd w A l) (hl : l.length ≤ 140737488355328) :
    Calls Tryz.prog 12 #[.agg (partC p (.slice A l.length c))] w fun e w' => ∃ A2 c2, e = .returned (.agg (partC p (.slice A2 l.length c2))) ∧ l.length ≤ c2 ∧ c2 ≤ maxLen ∧ Own w.heap.size w' A2 l ∧ Chg Non w w' := by
  have HR := Lib.hid hr
  obtain ⟨C, hC⟩ : ∃ C, partC p (.slice A l.length c) = C := ⟨_, rfl⟩
  have hsz : C.size = 14 := by rw [← hC]; exact partC_size h8 _
  have e13 : C[13]'(by omega) = .slice A l.length c := by
    have h := partC_end h8 (.slice A l.length c) 2 (by omega)
    rw [hC] at h
    rw [Array.getElem?_eq_getElem (by omega)] at h
    simpa using h
  have HC := Lib.hid hC
  rw [hC]
  clear hC hr
  go_enter Tryz.func12, Tryz.ntmps12
  go_wp2_with fail
  have HZ : Hid (Chg Non w ((w.alloc (.cells C 26)).alloc (.cells zeroPart 26))) := Lib.hid (((Chg.refl Non w).alloc _).alloc _)
  refine (SlClone_ok A l c _ (HR.out.non HZ.out) hl).mono ?_
  rintro e w1 ⟨A2, c2, rfl, q1, q2, q3, q4⟩
  have HO := Lib.hid (q3.mono (show w.heap.size + 2 ≤ _ by simp))
  have HG := Lib.hid (HZ.out.then_non q4)
  have HB0 := Lib.hid (blockN q4 (al_2_0 w _ _))
  have HB1 := Lib.hid (blockN q4 (al_2_1 w (.cells C 26) (.cells zeroPart 26)))
  have hp0 : PartB w1 w.heap.size p (.slice A l.length c) := ⟨by unfold PartAt; rw [HC.out]; exact HB0.out, h8⟩
  have HP := Lib.hid hp0
  have hlt := hp0.lt
  have hf := hp0.frozen 13
  have hc13 := hp0.cells.2.2.2.2.2
  clear q3 q4 hp0 e13
  go_wp2_with (refine sel (some 7) (.load _ _) ?_; refine Vm_stop ?_)
  refine HoleV.mk ?_
  have hp1 := HP.out.setMem (.slice A2 l.length c2)
  have HG1 := Lib.hid (HG.out.then_new (setAt w1 w.heap.size 13 (.slice A2 l.length c2)) (fun x e => by omega))
  have HO1 := Lib.hid (HO.out.keep (setAt w1 w.heap.size 13 (.slice A2 l.length c2)) (fun b' o' e1 e2 e3 e4 => by omega))
  have HB11 := Lib.hid (blockS HB1.out (setAt w1 w.heap.size 13 (.slice A2 l.length c2)) (by omega))
  have HP1 := Lib.hid hp1
  refine wpList_load_row rfl 26 (.tmp 1) rfl w.heap.size rfl 26 (partC p (.slice A2 l.length c2)) (0, 0) _ HP1.out.out Tryz.underlying26 rfl (by rw [partC_size h8]; exact info_part) ?_
  have hone : (partC p (.slice A2 l.length c2)).all (·.oneCell') = true := partC_one _ _ rfl
  refine wpList_store_rowA rfl 26 (.tmp 2) (.tmp 7) rfl (w.heap.size + 1) (partC p (.slice A2 l.length c2)) rfl rfl 26 zeroPart HB11.out (by rw [partC_size h8]; exact info_part) (by rw [partC_size h8]; rfl) hone ?_
  intro W hgW hbW
  have HBW := Lib.hid hbW
  have HG2 := Lib.hid (HG1.out.then_new hgW (fun x e => by omega))
  have HO2 := Lib.hid (HO1.out.keep hgW (fun b' o' e1 e2 e3 e4 => by omega))
  clear hbW hgW hp1
  go_wp2_with fail
  exact bodyPost_ret (results_cell_row Tryz.results12 _ _ (w.heap.size + 1) 26 _ (0, 0) _ rfl HBW.out Tryz.underlying26 rfl (by rw [partC_size h8]; exact info_part)) rfl ⟨A2, c2, rfl, q1, q2, HO2.out.mono (by omega), HG2.out⟩

def opsC : Array Value := #[.nilFunc, .nilFunc, .nilFunc, .nilFunc, .nilFunc, .func (.func 36) #[] #[], .nilFunc, .func (.func 37) #[] #[], .func (.func 43) #[] #[], .nilFunc, .func (.func 44) #[] #[], .nilFunc, .func (.func 45) #[] #[], .nilFunc, .func (.func 46) #[] #[], .nilFunc, .func (.func 47) #[] #[], .nilFunc, .func (.func 48) #[] #[], .nilFunc, .func (.func 49) #[] #[], .nilFunc, .func (.func 50) #[] #[], .nilFunc, .func (.func 51) #[] #[], .nilFunc, .nilFunc, .func (.func 38) #[] #[], .nilFunc, .func (.func 39) #[] #[], .nilFunc, .func (.func 40) #[] #[], .nilFunc, .func (.func 41) #[] #[], .nilFunc, .nilFunc, .nilFunc, .nilFunc, .nilFunc, .nilFunc, .nilFunc, .nilFunc, .nilFunc, .func (.func 42) #[] #[]]
def opsZ : Array Value := #[.nilFunc, .nilFunc, .nilFunc, .nilFunc, .nilFunc, .nilFunc, .nilFunc, .nilFunc, .nilFunc, .nilFunc, .nilFunc, .nilFunc, .nilFunc, .nilFunc, .nilFunc, .nilFunc, .nilFunc, .nilFunc, .nilFunc, .nilFunc, .nilFunc, .nilFunc, .nilFunc, .nilFunc, .nilFunc, .nilFunc, .nilFunc, .nilFunc, .nilFunc, .nilFunc, .nilFunc, .nilFunc, .nilFunc, .nilFunc, .nilFunc, .nilFunc, .nilFunc, .nilFunc, .nilFunc, .nilFunc, .nilFunc, .nilFunc, .nilFunc, .nilFunc]
set_option maxRecDepth 100000 in
set_option maxHeartbeats 1000000 in
theorem ops_ok (w : World) : Calls Tryz.prog 22 #[] w fun e w' => e = .returned (.agg opsC) ∧ Chg Non w w' := by
  go_enter Tryz.func22, Tryz.ntmps22
  go_wp2_with (first
    | (refine sel none (.store _ (.tmp 0) (.tmp 17)) ?_; refine Vm_stop ?_))
  refine HoleV.mk ?_
  refine wpList_store_rowA rfl 54 (.tmp 0) (.tmp 17) rfl w.heap.size opsC rfl rfl 54 opsZ (heap_alloc_new w _) (by kernel_rfl) rfl (by simp [opsC, Value.oneCell']) ?_
  intro W hgW hbW
  have HBW := Lib.hid hbW
  have HG := Lib.hid (((Chg.refl Non w).alloc (.cells opsZ 54)).then_new hgW (fun x e => by omega))
  clear hbW hgW
  go_wp2_with fail
  exact bodyPost_ret (results_cell_row Tryz.results22 _ _ w.heap.size 54 opsC (0, 0) _ rfl HBW.out Tryz.underlying54 rfl (by kernel_rfl)) rfl ⟨rfl, HG.out⟩
end Go.Proofs.YtpcmnphohneddaaGreatDoor
