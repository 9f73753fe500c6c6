/- Walk of citadellaw20.VmBlind. (Written by wip/gen_vnk.py.) -/
import Derived.Test.YtpcmnphohneddaaGreatDoorVnL
import Derived.Test.YtpcmnphohneddaaGreatDoorVnI
import Derived.Test.YtpcmnphohneddaaGreatDoorVnJ
namespace Go.Proofs.YtpcmnphohneddaaGreatDoor
open Go.RowKit
set_option linter.unusedVariables false

set_option maxRecDepth 100000 in
set_option maxHeartbeats 16000000 in
theorem blind_walk (p : Pt) (A : Option Addr) (c : Nat) (a : Int) (x : UInt8) (w : World) (hE : Env w) (hb : p.Bd) (hr : Rd w A p.mem) (h0 : p.mem.length ≠ 0) (hl : p.mem.length ≤ 512) (hst : p.st = 0) (hpc : p.pc ≤ 512) :
    Calls Tryz.prog 5 #[.agg (partC p (.slice A p.mem.length c)), .int .i64 a, .int .u8 x.toNat] w fun e w' => e = .returned (.bool true) ∧ Chg Non w w' := by
  have HE := Lib.hid hE
  have HBd := Lib.hid hb
  have h8 := hb.r8
  obtain ⟨bm, om, rfl, _, _⟩ := hr.at_ (by omega)
  have hp : PartB (w.alloc (.cells (partC p (.slice (some ⟨bm, om, none⟩) p.mem.length c)) 26)) w.heap.size p (.slice (some ⟨bm, om, none⟩) p.mem.length c) := ⟨heap_alloc_new _ _, h8⟩
  have HP := Lib.hid hp
  have HR := Lib.hid (hr.non ((Chg.refl Non w).alloc (.cells (partC p (.slice (some ⟨bm, om, none⟩) p.mem.length c)) 26)))
  have HF := Lib.hid (fetch_four p hl)
  have c11 := hp.cells.2.2.2.1
  have c12 := hp.cells.2.2.2.2.1
  have c13 := hp.cells.2.2.2.2.2
  obtain ⟨C, hC⟩ : ∃ C, partC p (.slice (some ⟨bm, om, none⟩) p.mem.length c) = C := ⟨_, rfl⟩
  have z1 : C.size = 14 := by rw [← hC]; exact partC_size h8 _
  obtain ⟨k, hkN, hk⟩ := uModN a p.mem.length (by omega) (by omega)
  have HG : Hid (Chg Non w (w.alloc (.cells C 26))) := Lib.hid ((Chg.refl Non w).alloc _)
  have hz0 : ((p.mem.length : Int) == 0) = false := by rw [beq_eq_false_iff_ne]; omega
  have hz1 : decide ((p.mem.length : Int) > 512) = false := by simp; omega
  have hz2 : ((p.st : Int) != 0) = false := by rw [hst]; rfl
  have hz3 : decide ((p.pc : Int) > 512) = false := by simp; omega
  have hz9 : (p.mem.length : Int) ≠ 0 := by omega
  have hz8 : IntKind.u64.wrap (p.mem.length : Int) = p.mem.length := by rw [IntKind.wrap_u64]; omega
  have HSt := Lib.hid hst
  have HLn := Lib.hid hl
  rw [hC] at c11 c12 c13 HP HR ⊢
  have HC := Lib.hid hC
  clear hC hp hE hb hr hst hl
  go_enter Tryz.func5, Tryz.ntmps5
  by_cases hsv : (k < p.pc ∨ p.pc + 4 ≤ k) ∧ p.pc + 4 ≤ p.mem.length
  · skip
    go_wp2_with (first
      | (refine sel (some 54) (.binOp _ _ _ _ _) ?_; refine Vm_stop ?_))
    refine HoleV.mk ?_
    refine wpList_cut (α := Nat → Value) (fun y x => ((((((((((((((x.put (some 54) (y 54)).put (some 55) (y 55)).put (some 56) (y 56)).put (some 57) (y 57)).put (some 58) (y 58)).put (some 59) (y 59)).put (some 60) (y 60)).put (some 61) (y 61)).put (some 62) (y 62)).put (some 63) (y 63)).put (some 64) (y 64)).put (some 65) (y 65)).put (some 66) (y 66)).put (some 67) (y 67)).put (some 68) (.bool false)) (fun _ v => v = w.alloc (.cells C 26)) ?_ ?_
    · have t5 : decide ((p.pc : Int) + 4 > (p.mem.length : Int)) = false := by rw [decide_eq_false_iff_not]; omega
      by_cases hk3 : p.pc ≤ k
      · have t3 : decide ((k : Int) ≥ (p.pc : Int)) = true := by rw [decide_eq_true_eq]; omega
        have t4 : decide ((k : Int) < (p.pc : Int) + 4) = false := by rw [decide_eq_false_iff_not]; omega
        go_wp2_with fail
        refine ⟨(fun i : Nat => if i = 52 then .int .i64 k else if i = 53 then .int .i64 p.pc else if i = 54 then .bool true else if i = 55 then .bool true else if i = 56 then .int .i64 k else if i = 57 then .int .i64 p.pc else if i = 58 then .int .i64 ((p.pc : Int) + 4) else if i = 59 then .bool false else if i = 60 then .bool false else if i = 61 then .bool false else if i = 62 then .int .i64 p.pc else if i = 63 then .int .i64 ((p.pc : Int) + 4) else if i = 64 then .pointer (some ⟨w.heap.size, 13, none⟩) else if i = 65 then .slice (some ⟨bm, om, none⟩) p.mem.length c else if i = 66 then .int .i64 p.mem.length else if i = 67 then .bool false else undef), by kernel_rfl, rfl⟩
      · have t3 : decide ((k : Int) ≥ (p.pc : Int)) = false := by rw [decide_eq_false_iff_not]; omega
        go_wp2_with fail
        refine ⟨(fun i : Nat => if i = 52 then .int .i64 k else if i = 53 then .int .i64 p.pc else if i = 54 then .bool false else if i = 55 then .bool false else if i = 60 then .bool false else if i = 61 then .bool false else if i = 62 then .int .i64 p.pc else if i = 63 then .int .i64 ((p.pc : Int) + 4) else if i = 64 then .pointer (some ⟨w.heap.size, 13, none⟩) else if i = 65 then .slice (some ⟨bm, om, none⟩) p.mem.length c else if i = 66 then .int .i64 p.mem.length else if i = 67 then .bool false else undef), by kernel_rfl, rfl⟩
    rintro y v rfl
    simp only [Act.put, List.setIfInBounds_toArray, List.set_cons_zero, List.set_cons_succ]
    rw [hk]
    have e0 := u8_cell HR.out p.pc (by omega)
    have e1 := u8_cell HR.out (p.pc + 1) (by omega)
    have e2 := u8_cell HR.out (p.pc + 2) (by omega)
    have e3 := u8_cell HR.out (p.pc + 3) (by omega)
    have hfe := HF.out hsv.2
    obtain ⟨f0, hf0⟩ : ∃ f, p.mem.getD p.pc 0 = f := ⟨_, rfl⟩
    obtain ⟨f1, hf1⟩ : ∃ f, p.mem.getD (p.pc + 1) 0 = f := ⟨_, rfl⟩
    obtain ⟨f2, hf2⟩ : ∃ f, p.mem.getD (p.pc + 2) 0 = f := ⟨_, rfl⟩
    obtain ⟨f3, hf3⟩ : ∃ f, p.mem.getD (p.pc + 3) 0 = f := ⟨_, rfl⟩
    rw [hf0] at e0 hfe
    rw [hf1] at e1 hfe
    rw [hf2] at e2 hfe
    rw [hf3] at e3 hfe
    clear hf0 hf1 hf2 hf3
    obtain ⟨P1, hP1⟩ : ∃ v, p.pc + 1 = v := ⟨_, rfl⟩
    obtain ⟨P2, hP2⟩ : ∃ v, p.pc + 2 = v := ⟨_, rfl⟩
    obtain ⟨P3, hP3⟩ : ∃ v, p.pc + 3 = v := ⟨_, rfl⟩
    rw [hP1] at e1
    rw [hP2] at e2
    rw [hP3] at e3
    have q1 : (p.pc : Int) + 1 = (P1 : Int) := by omega
    have q2 : (p.pc : Int) + 2 = (P2 : Int) := by omega
    have q3 : (p.pc : Int) + 3 = (P3 : Int) := by omega
    have i0 : (p.pc : Int) < (p.mem.length : Int) := by omega
    have i1 : (P1 : Int) < (p.mem.length : Int) := by omega
    have i2 : (P2 : Int) < (p.mem.length : Int) := by omega
    have i3 : (P3 : Int) < (p.mem.length : Int) := by omega
    have j0 : (p.pc : Int) ≤ 512 := by omega
    have w1 : IntKind.i64.wrap (P1 : Int) = P1 := Go.IntWalk.i64_in _ (by omega)
    have w2 : IntKind.i64.wrap (P2 : Int) = P2 := Go.IntWalk.i64_in _ (by omega)
    have w3 : IntKind.i64.wrap (P3 : Int) = P3 := Go.IntWalk.i64_in _ (by omega)
    have HF4 : Hid (Four (f0.toNat, f1.toNat, f2.toNat, f3.toNat)) := Lib.hid ⟨f0.toNat_lt, f1.toNat_lt, f2.toNat_lt, f3.toNat_lt⟩
    have HSv := Lib.hid hsv
    clear hP1 hP2 hP3 hsv HF
    obtain ⟨W0, hW0⟩ : ∃ W, w.alloc (.cells C 26) = W := ⟨_, rfl⟩
    rw [hW0] at c11 c12 c13 HP HR HG e0 e1 e2 e3 ⊢
    have hge : w.heap.size < W0.heap.size := HP.out.lt
    clear hW0
    obtain ⟨⟨op, a', b2, cc, ni⟩, hd⟩ : ∃ r, decI f0.toNat f1.toNat f2.toNat f3.toNat = r := ⟨_, rfl⟩
    rw [hd] at hfe
    have HFe := Lib.hid hfe
    clear hfe
    go_wp2_with fail
    cases hm : mayB ⟨op, a', b2, cc, ni⟩ with
    | false =>
      rw [← hd] at hm
      have HM := Lib.hid hm
      clear hm hd HFe
      apply wp_cutB (α := Nat) (f := fun ob x => ((((((((((((((((((((((((((((((x.put (some 71) (.pointer (some ⟨w.heap.size, 13, none⟩))).put (some 72) (.slice (some ⟨bm, om, none⟩) p.mem.length c)).put (some 73) (.int .i64 p.pc)).put (some 74) (.pointer (some ⟨bm, om + p.pc, none⟩))).put (some 75) (.int .u8 f0.toNat)).put (some 76) (.pointer (some ⟨w.heap.size, 13, none⟩))).put (some 77) (.slice (some ⟨bm, om, none⟩) p.mem.length c)).put (some 78) (.int .i64 p.pc)).put (some 79) (.int .i64 P1)).put (some 80) (.pointer (some ⟨bm, om + P1, none⟩))).put (some 81) (.int .u8 f1.toNat)).put (some 82) (.pointer (some ⟨w.heap.size, 13, none⟩))).put (some 83) (.slice (some ⟨bm, om, none⟩) p.mem.length c)).put (some 84) (.int .i64 p.pc)).put (some 85) (.int .i64 P2)).put (some 86) (.pointer (some ⟨bm, om + P2, none⟩))).put (some 87) (.int .u8 f2.toNat)).put (some 88) (.pointer (some ⟨w.heap.size, 13, none⟩))).put (some 89) (.slice (some ⟨bm, om, none⟩) p.mem.length c)).put (some 90) (.int .i64 p.pc)).put (some 91) (.int .i64 P3)).put (some 92) (.pointer (some ⟨bm, om + P3, none⟩))).put (some 93) (.int .u8 f3.toNat)).put (some 94) (.agg #[.int .u8 f0.toNat, .int .u8 f1.toNat, .int .u8 f2.toNat, .int .u8 f3.toNat])).put (some 95) (.tuple #[.agg #[.int .u8 0, .int .u8 0, .int .u8 0, .int .u8 0, .int .i64 0], .int .i64 190])).put (some 70) (.tuple #[.agg #[.int .u8 0, .int .u8 0, .int .u8 0, .int .u8 0, .int .i64 0], .int .i64 190])).put (some 96) (.agg #[.int .u8 0, .int .u8 0, .int .u8 0, .int .u8 0, .int .i64 0])).put (some 97) (.int .i64 190)).put (some 9) (.pointer (some ⟨ob, 0, none⟩))).put (some 10) (.int .i64 190))) (R := fun ob v => v.heap[ob]? = some (.cells #[.int .u8 0, .int .u8 0, .int .u8 0, .int .u8 0, .int .i64 0] 38 (0, 0)) ∧ Chg Non W0 v ∧ W0.heap.size ≤ ob)
      · refine wp_region_held_drew (S := fun W => Chg Non W0 W) (by kernel_rfl) ((Chg.refl Non _).drew) (fun hHeld => ?_)
        clear hHeld
        refine h_pure 0 (some 71) (.pointer (some ⟨w.heap.size, 13, none⟩)) rfl (by kernel_rfl) (by kernel_rfl) (by kernel_rfl) (by kernel_rfl) (fun _ _ _ h => absurd h.1 (by simp)) (by kernel_rfl) (fun W hW => by go_simp) ((Chg.refl Non _).drew) ?_
        simp only [Act.put, List.setIfInBounds_toArray, List.set_cons_zero, List.set_cons_succ]
        refine h_pure 1 (some 72) (.slice (some ⟨bm, om, none⟩) p.mem.length c) rfl (by kernel_rfl) (by kernel_rfl) (by kernel_rfl) (by kernel_rfl) (fun _ _ _ h => absurd h.1 (by simp)) (by kernel_rfl) (fun W hW => by have hq := hW.cell_some c13 (fun e => e); go_simp) ((Chg.refl Non _).drew) ?_
        simp only [Act.put, List.setIfInBounds_toArray, List.set_cons_zero, List.set_cons_succ]
        refine h_pure 2 (some 73) (.int .i64 p.pc) rfl (by kernel_rfl) (by kernel_rfl) (by kernel_rfl) (by kernel_rfl) (fun _ _ _ h => absurd h.1 (by simp)) (by kernel_rfl) (fun W hW => by go_simp) ((Chg.refl Non _).drew) ?_
        simp only [Act.put, List.setIfInBounds_toArray, List.set_cons_zero, List.set_cons_succ]
        refine h_pure 3 (some 74) (.pointer (some ⟨bm, om + p.pc, none⟩)) rfl (by kernel_rfl) (by kernel_rfl) (by kernel_rfl) (by kernel_rfl) (fun _ _ _ h => absurd h.1 (by simp)) (by kernel_rfl) (fun W hW => by go_simp) ((Chg.refl Non _).drew) ?_
        simp only [Act.put, List.setIfInBounds_toArray, List.set_cons_zero, List.set_cons_succ]
        refine h_pure 4 (some 75) (.int .u8 f0.toNat) rfl (by kernel_rfl) (by kernel_rfl) (by kernel_rfl) (by kernel_rfl) (fun _ _ _ h => absurd h.1 (by simp)) (by kernel_rfl) (fun W hW => by have hq := hW.cell_some e0 (fun e => e); go_simp) ((Chg.refl Non _).drew) ?_
        simp only [Act.put, List.setIfInBounds_toArray, List.set_cons_zero, List.set_cons_succ]
        refine h_pure 5 (some 76) (.pointer (some ⟨w.heap.size, 13, none⟩)) rfl (by kernel_rfl) (by kernel_rfl) (by kernel_rfl) (by kernel_rfl) (fun _ _ _ h => absurd h.1 (by simp)) (by kernel_rfl) (fun W hW => by go_simp) ((Chg.refl Non _).drew) ?_
        simp only [Act.put, List.setIfInBounds_toArray, List.set_cons_zero, List.set_cons_succ]
        refine h_pure 6 (some 77) (.slice (some ⟨bm, om, none⟩) p.mem.length c) rfl (by kernel_rfl) (by kernel_rfl) (by kernel_rfl) (by kernel_rfl) (fun _ _ _ h => absurd h.1 (by simp)) (by kernel_rfl) (fun W hW => by have hq := hW.cell_some c13 (fun e => e); go_simp) ((Chg.refl Non _).drew) ?_
        simp only [Act.put, List.setIfInBounds_toArray, List.set_cons_zero, List.set_cons_succ]
        refine h_pure 7 (some 78) (.int .i64 p.pc) rfl (by kernel_rfl) (by kernel_rfl) (by kernel_rfl) (by kernel_rfl) (fun _ _ _ h => absurd h.1 (by simp)) (by kernel_rfl) (fun W hW => by go_simp) ((Chg.refl Non _).drew) ?_
        simp only [Act.put, List.setIfInBounds_toArray, List.set_cons_zero, List.set_cons_succ]
        refine h_pure 8 (some 79) (.int .i64 P1) rfl (by kernel_rfl) (by kernel_rfl) (by kernel_rfl) (by kernel_rfl) (fun _ _ _ h => absurd h.1 (by simp)) (by kernel_rfl) (fun W hW => by go_simp) ((Chg.refl Non _).drew) ?_
        simp only [Act.put, List.setIfInBounds_toArray, List.set_cons_zero, List.set_cons_succ]
        refine h_pure 9 (some 80) (.pointer (some ⟨bm, om + P1, none⟩)) rfl (by kernel_rfl) (by kernel_rfl) (by kernel_rfl) (by kernel_rfl) (fun _ _ _ h => absurd h.1 (by simp)) (by kernel_rfl) (fun W hW => by go_simp) ((Chg.refl Non _).drew) ?_
        simp only [Act.put, List.setIfInBounds_toArray, List.set_cons_zero, List.set_cons_succ]
        refine h_pure 10 (some 81) (.int .u8 f1.toNat) rfl (by kernel_rfl) (by kernel_rfl) (by kernel_rfl) (by kernel_rfl) (fun _ _ _ h => absurd h.1 (by simp)) (by kernel_rfl) (fun W hW => by have hq := hW.cell_some e1 (fun e => e); go_simp) ((Chg.refl Non _).drew) ?_
        simp only [Act.put, List.setIfInBounds_toArray, List.set_cons_zero, List.set_cons_succ]
        refine h_pure 11 (some 82) (.pointer (some ⟨w.heap.size, 13, none⟩)) rfl (by kernel_rfl) (by kernel_rfl) (by kernel_rfl) (by kernel_rfl) (fun _ _ _ h => absurd h.1 (by simp)) (by kernel_rfl) (fun W hW => by go_simp) ((Chg.refl Non _).drew) ?_
        simp only [Act.put, List.setIfInBounds_toArray, List.set_cons_zero, List.set_cons_succ]
        refine h_pure 12 (some 83) (.slice (some ⟨bm, om, none⟩) p.mem.length c) rfl (by kernel_rfl) (by kernel_rfl) (by kernel_rfl) (by kernel_rfl) (fun _ _ _ h => absurd h.1 (by simp)) (by kernel_rfl) (fun W hW => by have hq := hW.cell_some c13 (fun e => e); go_simp) ((Chg.refl Non _).drew) ?_
        simp only [Act.put, List.setIfInBounds_toArray, List.set_cons_zero, List.set_cons_succ]
        refine h_pure 13 (some 84) (.int .i64 p.pc) rfl (by kernel_rfl) (by kernel_rfl) (by kernel_rfl) (by kernel_rfl) (fun _ _ _ h => absurd h.1 (by simp)) (by kernel_rfl) (fun W hW => by go_simp) ((Chg.refl Non _).drew) ?_
        simp only [Act.put, List.setIfInBounds_toArray, List.set_cons_zero, List.set_cons_succ]
        refine h_pure 14 (some 85) (.int .i64 P2) rfl (by kernel_rfl) (by kernel_rfl) (by kernel_rfl) (by kernel_rfl) (fun _ _ _ h => absurd h.1 (by simp)) (by kernel_rfl) (fun W hW => by go_simp) ((Chg.refl Non _).drew) ?_
        simp only [Act.put, List.setIfInBounds_toArray, List.set_cons_zero, List.set_cons_succ]
        refine h_pure 15 (some 86) (.pointer (some ⟨bm, om + P2, none⟩)) rfl (by kernel_rfl) (by kernel_rfl) (by kernel_rfl) (by kernel_rfl) (fun _ _ _ h => absurd h.1 (by simp)) (by kernel_rfl) (fun W hW => by go_simp) ((Chg.refl Non _).drew) ?_
        simp only [Act.put, List.setIfInBounds_toArray, List.set_cons_zero, List.set_cons_succ]
        refine h_pure 16 (some 87) (.int .u8 f2.toNat) rfl (by kernel_rfl) (by kernel_rfl) (by kernel_rfl) (by kernel_rfl) (fun _ _ _ h => absurd h.1 (by simp)) (by kernel_rfl) (fun W hW => by have hq := hW.cell_some e2 (fun e => e); go_simp) ((Chg.refl Non _).drew) ?_
        simp only [Act.put, List.setIfInBounds_toArray, List.set_cons_zero, List.set_cons_succ]
        refine h_pure 17 (some 88) (.pointer (some ⟨w.heap.size, 13, none⟩)) rfl (by kernel_rfl) (by kernel_rfl) (by kernel_rfl) (by kernel_rfl) (fun _ _ _ h => absurd h.1 (by simp)) (by kernel_rfl) (fun W hW => by go_simp) ((Chg.refl Non _).drew) ?_
        simp only [Act.put, List.setIfInBounds_toArray, List.set_cons_zero, List.set_cons_succ]
        refine h_pure 18 (some 89) (.slice (some ⟨bm, om, none⟩) p.mem.length c) rfl (by kernel_rfl) (by kernel_rfl) (by kernel_rfl) (by kernel_rfl) (fun _ _ _ h => absurd h.1 (by simp)) (by kernel_rfl) (fun W hW => by have hq := hW.cell_some c13 (fun e => e); go_simp) ((Chg.refl Non _).drew) ?_
        simp only [Act.put, List.setIfInBounds_toArray, List.set_cons_zero, List.set_cons_succ]
        refine h_pure 19 (some 90) (.int .i64 p.pc) rfl (by kernel_rfl) (by kernel_rfl) (by kernel_rfl) (by kernel_rfl) (fun _ _ _ h => absurd h.1 (by simp)) (by kernel_rfl) (fun W hW => by go_simp) ((Chg.refl Non _).drew) ?_
        simp only [Act.put, List.setIfInBounds_toArray, List.set_cons_zero, List.set_cons_succ]
        refine h_pure 20 (some 91) (.int .i64 P3) rfl (by kernel_rfl) (by kernel_rfl) (by kernel_rfl) (by kernel_rfl) (fun _ _ _ h => absurd h.1 (by simp)) (by kernel_rfl) (fun W hW => by go_simp) ((Chg.refl Non _).drew) ?_
        simp only [Act.put, List.setIfInBounds_toArray, List.set_cons_zero, List.set_cons_succ]
        refine h_pure 21 (some 92) (.pointer (some ⟨bm, om + P3, none⟩)) rfl (by kernel_rfl) (by kernel_rfl) (by kernel_rfl) (by kernel_rfl) (fun _ _ _ h => absurd h.1 (by simp)) (by kernel_rfl) (fun W hW => by go_simp) ((Chg.refl Non _).drew) ?_
        simp only [Act.put, List.setIfInBounds_toArray, List.set_cons_zero, List.set_cons_succ]
        refine h_pure 22 (some 93) (.int .u8 f3.toNat) rfl (by kernel_rfl) (by kernel_rfl) (by kernel_rfl) (by kernel_rfl) (fun _ _ _ h => absurd h.1 (by simp)) (by kernel_rfl) (fun W hW => by have hq := hW.cell_some e3 (fun e => e); go_simp) ((Chg.refl Non _).drew) ?_
        simp only [Act.put, List.setIfInBounds_toArray, List.set_cons_zero, List.set_cons_succ]
        refine h_pure 23 (some 94) (.agg #[.int .u8 f0.toNat, .int .u8 f1.toNat, .int .u8 f2.toNat, .int .u8 f3.toNat]) rfl (by kernel_rfl) (by kernel_rfl) (by kernel_rfl) (by kernel_rfl) (fun _ _ _ h => absurd h.1 (by simp)) (by kernel_rfl) (fun W hW => by go_simp) ((Chg.refl Non _).drew) ?_
        simp only [Act.put, List.setIfInBounds_toArray, List.set_cons_zero, List.set_cons_succ]
        refine h_two 24 28 (by kernel_rfl) rfl rfl (by kernel_rfl) (by kernel_rfl) ?_ ?_
        · intro K hK
          go_simp
          refine (Dec_n f0.toNat f1.toNat f2.toNat f3.toNat _ HF4.out HM.out).mono ?_
          rintro e u1 ⟨rfl, hg1⟩
          have HU1 := Lib.hid (((Chg.refl Non W0).drew).then_non hg1)
          have hsz := HU1.out.size
          clear hg1
          refine hK.out _ _ HU1.out (fun _ => ?_)
          clear hK K
          refine h_pure 25 (some 70) (.tuple #[.agg #[.int .u8 0, .int .u8 0, .int .u8 0, .int .u8 0, .int .i64 0], .int .i64 190]) rfl (by kernel_rfl) (by kernel_rfl) (by kernel_rfl) (by kernel_rfl) (fun _ _ _ h => absurd h.1 (by simp)) (by kernel_rfl) (fun W hW => by go_simp) HU1.out ?_
          simp only [Act.put, List.setIfInBounds_toArray, List.set_cons_zero, List.set_cons_succ]
          refine h_pure 26 (some 96) (.agg #[.int .u8 0, .int .u8 0, .int .u8 0, .int .u8 0, .int .i64 0]) rfl (by kernel_rfl) (by kernel_rfl) (by kernel_rfl) (by kernel_rfl) (fun _ _ _ h => absurd h.1 (by simp)) (by kernel_rfl) (fun W hW => by go_simp) HU1.out ?_
          simp only [Act.put, List.setIfInBounds_toArray, List.set_cons_zero, List.set_cons_succ]
          refine h_pure 27 (some 97) (.int .i64 190) rfl (by kernel_rfl) (by kernel_rfl) (by kernel_rfl) (by kernel_rfl) (fun _ _ _ h => absurd h.1 (by simp)) (by kernel_rfl) (fun W hW => by go_simp) HU1.out ?_
          simp only [Act.put, List.setIfInBounds_toArray, List.set_cons_zero, List.set_cons_succ]
          refine h_one 28 (by kernel_rfl) rfl (by kernel_rfl) ?_
          intro K hK
          go_simp
          refine hK.out _ _ (HU1.out.alloc _) (fun _ => ?_)
          clear hK K
          refine h_store 29 38 (.tmp 9) (.tmp 96) u1.heap.size #[.int .u8 0, .int .u8 0, .int .u8 0, .int .u8 0, .int .i64 0] (by kernel_rfl) rfl (by kernel_rfl) rfl rfl rfl rfl 38 ⟨#[.int .u8 0, .int .u8 0, .int .u8 0, .int .u8 0, .int .i64 0], heap_alloc_new _ _, rfl⟩ (by kernel_rfl) (by simp [Value.oneCell']) (fun W hg hb => (HU1.out.alloc _).then_new hg (fun x e => by have := e; omega)) ?_
          intro W hgW hbW
          refine h_pure 30 (some 10) (.int .i64 190) rfl (by kernel_rfl) (by kernel_rfl) (by kernel_rfl) (by kernel_rfl) (fun _ _ _ h => absurd h.1 (by simp)) (by kernel_rfl) (fun W hW => by go_simp) ((HU1.out.alloc _).then_new hgW (fun x e => by have := e; omega)) ?_
          simp only [Act.put, List.setIfInBounds_toArray, List.set_cons_zero, List.set_cons_succ]
          refine wpAnyH_done (by kernel_rfl) ?_ _
          exact ⟨rfl, u1.heap.size, by kernel_rfl, hbW, (HU1.out.alloc _).then_new hgW (fun x e => by have := e; omega), by omega⟩
        · intro K hK
          go_simp
          refine hK.out _ _ (((Chg.refl Non _).drew).alloc _) (fun _ => ?_)
          clear hK K
          refine h_one 24 (by kernel_rfl) rfl (by kernel_rfl) ?_
          intro K hK
          go_simp
          refine (Dec_n f0.toNat f1.toNat f2.toNat f3.toNat _ HF4.out HM.out).mono ?_
          rintro e u1 ⟨rfl, hg1⟩
          have HU1 := Lib.hid ((((Chg.refl Non W0).drew).alloc _).then_non hg1)
          have HB1 := Lib.hid (blockN hg1 (heap_alloc_new W0.drew _))
          have hyd : W0.drew.heap.size = W0.heap.size := rfl
          clear hg1
          refine hK.out _ _ HU1.out (fun _ => ?_)
          clear hK K
          refine h_pure 25 (some 70) (.tuple #[.agg #[.int .u8 0, .int .u8 0, .int .u8 0, .int .u8 0, .int .i64 0], .int .i64 190]) rfl (by kernel_rfl) (by kernel_rfl) (by kernel_rfl) (by kernel_rfl) (fun _ _ _ h => absurd h.1 (by simp)) (by kernel_rfl) (fun W hW => by go_simp) HU1.out ?_
          simp only [Act.put, List.setIfInBounds_toArray, List.set_cons_zero, List.set_cons_succ]
          refine h_pure 26 (some 96) (.agg #[.int .u8 0, .int .u8 0, .int .u8 0, .int .u8 0, .int .i64 0]) rfl (by kernel_rfl) (by kernel_rfl) (by kernel_rfl) (by kernel_rfl) (fun _ _ _ h => absurd h.1 (by simp)) (by kernel_rfl) (fun W hW => by go_simp) HU1.out ?_
          simp only [Act.put, List.setIfInBounds_toArray, List.set_cons_zero, List.set_cons_succ]
          refine h_pure 27 (some 97) (.int .i64 190) rfl (by kernel_rfl) (by kernel_rfl) (by kernel_rfl) (by kernel_rfl) (fun _ _ _ h => absurd h.1 (by simp)) (by kernel_rfl) (fun W hW => by go_simp) HU1.out ?_
          simp only [Act.put, List.setIfInBounds_toArray, List.set_cons_zero, List.set_cons_succ]
          refine h_store 29 38 (.tmp 9) (.tmp 96) W0.heap.size #[.int .u8 0, .int .u8 0, .int .u8 0, .int .u8 0, .int .i64 0] (by kernel_rfl) rfl (by kernel_rfl) rfl rfl rfl rfl 38 ⟨#[.int .u8 0, .int .u8 0, .int .u8 0, .int .u8 0, .int .i64 0], HB1.out, rfl⟩ (by kernel_rfl) (by simp [Value.oneCell']) (fun W hg hb => HU1.out.then_new hg (fun x e => by have := e; omega)) ?_
          intro W hgW hbW
          refine h_pure 30 (some 10) (.int .i64 190) rfl (by kernel_rfl) (by kernel_rfl) (by kernel_rfl) (by kernel_rfl) (fun _ _ _ h => absurd h.1 (by simp)) (by kernel_rfl) (fun W hW => by go_simp) (HU1.out.then_new hgW (fun x e => by have := e; omega)) ?_
          simp only [Act.put, List.setIfInBounds_toArray, List.set_cons_zero, List.set_cons_succ]
          refine wpAnyH_done (by kernel_rfl) ?_ _
          exact ⟨rfl, W0.heap.size, by kernel_rfl, hbW, HU1.out.then_new hgW (fun x e => by have := e; omega), by omega⟩
      rintro ob u ⟨hob, hgu, hle⟩
      simp only [Act.put, List.setIfInBounds_toArray, List.set_cons_zero, List.set_cons_succ]
      have HG := Lib.hid (HG.out.then_non hgu)
      clear hob hgu
      go_wp2_with fail
      refine (vawake_ok _ (HE.out.non HG.out)).mono ?_
      rintro e wz ⟨rfl, gz⟩
      have HG := Lib.hid (HG.out.then_non gz)
      clear gz
      go_wp2_with fail
      go_ret
      exact ⟨rfl, HG.out⟩
    | true =>
      have hi := (mayB_iff _).1 hm
      obtain ⟨n, rfl⟩ : ∃ n : Nat, ni = n := ⟨ni.toNat, by have := hi.2.2.2.2.1; simp only at this; omega⟩
      have hx1 := may_bd hm
      have HM := Lib.hid hm
      have HDc := Lib.hid hd
      clear hi hm hd
      apply wp_cutB (α := Nat) (f := fun ob x => ((((((((((((((((((((((((((((((x.put (some 71) (.pointer (some ⟨w.heap.size, 13, none⟩))).put (some 72) (.slice (some ⟨bm, om, none⟩) p.mem.length c)).put (some 73) (.int .i64 p.pc)).put (some 74) (.pointer (some ⟨bm, om + p.pc, none⟩))).put (some 75) (.int .u8 f0.toNat)).put (some 76) (.pointer (some ⟨w.heap.size, 13, none⟩))).put (some 77) (.slice (some ⟨bm, om, none⟩) p.mem.length c)).put (some 78) (.int .i64 p.pc)).put (some 79) (.int .i64 P1)).put (some 80) (.pointer (some ⟨bm, om + P1, none⟩))).put (some 81) (.int .u8 f1.toNat)).put (some 82) (.pointer (some ⟨w.heap.size, 13, none⟩))).put (some 83) (.slice (some ⟨bm, om, none⟩) p.mem.length c)).put (some 84) (.int .i64 p.pc)).put (some 85) (.int .i64 P2)).put (some 86) (.pointer (some ⟨bm, om + P2, none⟩))).put (some 87) (.int .u8 f2.toNat)).put (some 88) (.pointer (some ⟨w.heap.size, 13, none⟩))).put (some 89) (.slice (some ⟨bm, om, none⟩) p.mem.length c)).put (some 90) (.int .i64 p.pc)).put (some 91) (.int .i64 P3)).put (some 92) (.pointer (some ⟨bm, om + P3, none⟩))).put (some 93) (.int .u8 f3.toNat)).put (some 94) (.agg #[.int .u8 f0.toNat, .int .u8 f1.toNat, .int .u8 f2.toNat, .int .u8 f3.toNat])).put (some 95) (.tuple #[.agg #[.int .u8 op, .int .u8 a', .int .u8 b2, .int .u8 cc, .int .i64 (n : Nat)], .int .i64 0])).put (some 70) (.tuple #[.agg #[.int .u8 op, .int .u8 a', .int .u8 b2, .int .u8 cc, .int .i64 (n : Nat)], .int .i64 0])).put (some 96) (.agg #[.int .u8 op, .int .u8 a', .int .u8 b2, .int .u8 cc, .int .i64 (n : Nat)])).put (some 97) (.int .i64 0)).put (some 9) (.pointer (some ⟨ob, 0, none⟩))).put (some 10) (.int .i64 0))) (R := fun ob v => v.heap[ob]? = some (.cells #[.int .u8 op, .int .u8 a', .int .u8 b2, .int .u8 cc, .int .i64 (n : Nat)] 38 (0, 0)) ∧ Chg Non W0 v ∧ W0.heap.size ≤ ob)
      · refine wp_region_held_drew (S := fun W => Chg Non W0 W) (by kernel_rfl) ((Chg.refl Non _).drew) (fun hHeld => ?_)
        clear hHeld
        refine h_pure 0 (some 71) (.pointer (some ⟨w.heap.size, 13, none⟩)) rfl (by kernel_rfl) (by kernel_rfl) (by kernel_rfl) (by kernel_rfl) (fun _ _ _ h => absurd h.1 (by simp)) (by kernel_rfl) (fun W hW => by go_simp) ((Chg.refl Non _).drew) ?_
        simp only [Act.put, List.setIfInBounds_toArray, List.set_cons_zero, List.set_cons_succ]
        refine h_pure 1 (some 72) (.slice (some ⟨bm, om, none⟩) p.mem.length c) rfl (by kernel_rfl) (by kernel_rfl) (by kernel_rfl) (by kernel_rfl) (fun _ _ _ h => absurd h.1 (by simp)) (by kernel_rfl) (fun W hW => by have hq := hW.cell_some c13 (fun e => e); go_simp) ((Chg.refl Non _).drew) ?_
        simp only [Act.put, List.setIfInBounds_toArray, List.set_cons_zero, List.set_cons_succ]
        refine h_pure 2 (some 73) (.int .i64 p.pc) rfl (by kernel_rfl) (by kernel_rfl) (by kernel_rfl) (by kernel_rfl) (fun _ _ _ h => absurd h.1 (by simp)) (by kernel_rfl) (fun W hW => by go_simp) ((Chg.refl Non _).drew) ?_
        simp only [Act.put, List.setIfInBounds_toArray, List.set_cons_zero, List.set_cons_succ]
        refine h_pure 3 (some 74) (.pointer (some ⟨bm, om + p.pc, none⟩)) rfl (by kernel_rfl) (by kernel_rfl) (by kernel_rfl) (by kernel_rfl) (fun _ _ _ h => absurd h.1 (by simp)) (by kernel_rfl) (fun W hW => by go_simp) ((Chg.refl Non _).drew) ?_
        simp only [Act.put, List.setIfInBounds_toArray, List.set_cons_zero, List.set_cons_succ]
        refine h_pure 4 (some 75) (.int .u8 f0.toNat) rfl (by kernel_rfl) (by kernel_rfl) (by kernel_rfl) (by kernel_rfl) (fun _ _ _ h => absurd h.1 (by simp)) (by kernel_rfl) (fun W hW => by have hq := hW.cell_some e0 (fun e => e); go_simp) ((Chg.refl Non _).drew) ?_
        simp only [Act.put, List.setIfInBounds_toArray, List.set_cons_zero, List.set_cons_succ]
        refine h_pure 5 (some 76) (.pointer (some ⟨w.heap.size, 13, none⟩)) rfl (by kernel_rfl) (by kernel_rfl) (by kernel_rfl) (by kernel_rfl) (fun _ _ _ h => absurd h.1 (by simp)) (by kernel_rfl) (fun W hW => by go_simp) ((Chg.refl Non _).drew) ?_
        simp only [Act.put, List.setIfInBounds_toArray, List.set_cons_zero, List.set_cons_succ]
        refine h_pure 6 (some 77) (.slice (some ⟨bm, om, none⟩) p.mem.length c) rfl (by kernel_rfl) (by kernel_rfl) (by kernel_rfl) (by kernel_rfl) (fun _ _ _ h => absurd h.1 (by simp)) (by kernel_rfl) (fun W hW => by have hq := hW.cell_some c13 (fun e => e); go_simp) ((Chg.refl Non _).drew) ?_
        simp only [Act.put, List.setIfInBounds_toArray, List.set_cons_zero, List.set_cons_succ]
        refine h_pure 7 (some 78) (.int .i64 p.pc) rfl (by kernel_rfl) (by kernel_rfl) (by kernel_rfl) (by kernel_rfl) (fun _ _ _ h => absurd h.1 (by simp)) (by kernel_rfl) (fun W hW => by go_simp) ((Chg.refl Non _).drew) ?_
        simp only [Act.put, List.setIfInBounds_toArray, List.set_cons_zero, List.set_cons_succ]
        refine h_pure 8 (some 79) (.int .i64 P1) rfl (by kernel_rfl) (by kernel_rfl) (by kernel_rfl) (by kernel_rfl) (fun _ _ _ h => absurd h.1 (by simp)) (by kernel_rfl) (fun W hW => by go_simp) ((Chg.refl Non _).drew) ?_
        simp only [Act.put, List.setIfInBounds_toArray, List.set_cons_zero, List.set_cons_succ]
        refine h_pure 9 (some 80) (.pointer (some ⟨bm, om + P1, none⟩)) rfl (by kernel_rfl) (by kernel_rfl) (by kernel_rfl) (by kernel_rfl) (fun _ _ _ h => absurd h.1 (by simp)) (by kernel_rfl) (fun W hW => by go_simp) ((Chg.refl Non _).drew) ?_
        simp only [Act.put, List.setIfInBounds_toArray, List.set_cons_zero, List.set_cons_succ]
        refine h_pure 10 (some 81) (.int .u8 f1.toNat) rfl (by kernel_rfl) (by kernel_rfl) (by kernel_rfl) (by kernel_rfl) (fun _ _ _ h => absurd h.1 (by simp)) (by kernel_rfl) (fun W hW => by have hq := hW.cell_some e1 (fun e => e); go_simp) ((Chg.refl Non _).drew) ?_
        simp only [Act.put, List.setIfInBounds_toArray, List.set_cons_zero, List.set_cons_succ]
        refine h_pure 11 (some 82) (.pointer (some ⟨w.heap.size, 13, none⟩)) rfl (by kernel_rfl) (by kernel_rfl) (by kernel_rfl) (by kernel_rfl) (fun _ _ _ h => absurd h.1 (by simp)) (by kernel_rfl) (fun W hW => by go_simp) ((Chg.refl Non _).drew) ?_
        simp only [Act.put, List.setIfInBounds_toArray, List.set_cons_zero, List.set_cons_succ]
        refine h_pure 12 (some 83) (.slice (some ⟨bm, om, none⟩) p.mem.length c) rfl (by kernel_rfl) (by kernel_rfl) (by kernel_rfl) (by kernel_rfl) (fun _ _ _ h => absurd h.1 (by simp)) (by kernel_rfl) (fun W hW => by have hq := hW.cell_some c13 (fun e => e); go_simp) ((Chg.refl Non _).drew) ?_
        simp only [Act.put, List.setIfInBounds_toArray, List.set_cons_zero, List.set_cons_succ]
        refine h_pure 13 (some 84) (.int .i64 p.pc) rfl (by kernel_rfl) (by kernel_rfl) (by kernel_rfl) (by kernel_rfl) (fun _ _ _ h => absurd h.1 (by simp)) (by kernel_rfl) (fun W hW => by go_simp) ((Chg.refl Non _).drew) ?_
        simp only [Act.put, List.setIfInBounds_toArray, List.set_cons_zero, List.set_cons_succ]
        refine h_pure 14 (some 85) (.int .i64 P2) rfl (by kernel_rfl) (by kernel_rfl) (by kernel_rfl) (by kernel_rfl) (fun _ _ _ h => absurd h.1 (by simp)) (by kernel_rfl) (fun W hW => by go_simp) ((Chg.refl Non _).drew) ?_
        simp only [Act.put, List.setIfInBounds_toArray, List.set_cons_zero, List.set_cons_succ]
        refine h_pure 15 (some 86) (.pointer (some ⟨bm, om + P2, none⟩)) rfl (by kernel_rfl) (by kernel_rfl) (by kernel_rfl) (by kernel_rfl) (fun _ _ _ h => absurd h.1 (by simp)) (by kernel_rfl) (fun W hW => by go_simp) ((Chg.refl Non _).drew) ?_
        simp only [Act.put, List.setIfInBounds_toArray, List.set_cons_zero, List.set_cons_succ]
        refine h_pure 16 (some 87) (.int .u8 f2.toNat) rfl (by kernel_rfl) (by kernel_rfl) (by kernel_rfl) (by kernel_rfl) (fun _ _ _ h => absurd h.1 (by simp)) (by kernel_rfl) (fun W hW => by have hq := hW.cell_some e2 (fun e => e); go_simp) ((Chg.refl Non _).drew) ?_
        simp only [Act.put, List.setIfInBounds_toArray, List.set_cons_zero, List.set_cons_succ]
        refine h_pure 17 (some 88) (.pointer (some ⟨w.heap.size, 13, none⟩)) rfl (by kernel_rfl) (by kernel_rfl) (by kernel_rfl) (by kernel_rfl) (fun _ _ _ h => absurd h.1 (by simp)) (by kernel_rfl) (fun W hW => by go_simp) ((Chg.refl Non _).drew) ?_
        simp only [Act.put, List.setIfInBounds_toArray, List.set_cons_zero, List.set_cons_succ]
        refine h_pure 18 (some 89) (.slice (some ⟨bm, om, none⟩) p.mem.length c) rfl (by kernel_rfl) (by kernel_rfl) (by kernel_rfl) (by kernel_rfl) (fun _ _ _ h => absurd h.1 (by simp)) (by kernel_rfl) (fun W hW => by have hq := hW.cell_some c13 (fun e => e); go_simp) ((Chg.refl Non _).drew) ?_
        simp only [Act.put, List.setIfInBounds_toArray, List.set_cons_zero, List.set_cons_succ]
        refine h_pure 19 (some 90) (.int .i64 p.pc) rfl (by kernel_rfl) (by kernel_rfl) (by kernel_rfl) (by kernel_rfl) (fun _ _ _ h => absurd h.1 (by simp)) (by kernel_rfl) (fun W hW => by go_simp) ((Chg.refl Non _).drew) ?_
        simp only [Act.put, List.setIfInBounds_toArray, List.set_cons_zero, List.set_cons_succ]
        refine h_pure 20 (some 91) (.int .i64 P3) rfl (by kernel_rfl) (by kernel_rfl) (by kernel_rfl) (by kernel_rfl) (fun _ _ _ h => absurd h.1 (by simp)) (by kernel_rfl) (fun W hW => by go_simp) ((Chg.refl Non _).drew) ?_
        simp only [Act.put, List.setIfInBounds_toArray, List.set_cons_zero, List.set_cons_succ]
        refine h_pure 21 (some 92) (.pointer (some ⟨bm, om + P3, none⟩)) rfl (by kernel_rfl) (by kernel_rfl) (by kernel_rfl) (by kernel_rfl) (fun _ _ _ h => absurd h.1 (by simp)) (by kernel_rfl) (fun W hW => by go_simp) ((Chg.refl Non _).drew) ?_
        simp only [Act.put, List.setIfInBounds_toArray, List.set_cons_zero, List.set_cons_succ]
        refine h_pure 22 (some 93) (.int .u8 f3.toNat) rfl (by kernel_rfl) (by kernel_rfl) (by kernel_rfl) (by kernel_rfl) (fun _ _ _ h => absurd h.1 (by simp)) (by kernel_rfl) (fun W hW => by have hq := hW.cell_some e3 (fun e => e); go_simp) ((Chg.refl Non _).drew) ?_
        simp only [Act.put, List.setIfInBounds_toArray, List.set_cons_zero, List.set_cons_succ]
        refine h_pure 23 (some 94) (.agg #[.int .u8 f0.toNat, .int .u8 f1.toNat, .int .u8 f2.toNat, .int .u8 f3.toNat]) rfl (by kernel_rfl) (by kernel_rfl) (by kernel_rfl) (by kernel_rfl) (fun _ _ _ h => absurd h.1 (by simp)) (by kernel_rfl) (fun W hW => by go_simp) ((Chg.refl Non _).drew) ?_
        simp only [Act.put, List.setIfInBounds_toArray, List.set_cons_zero, List.set_cons_succ]
        refine h_two 24 28 (by kernel_rfl) rfl rfl (by kernel_rfl) (by kernel_rfl) ?_ ?_
        · intro K hK
          go_simp
          refine (Dec_v f0.toNat f1.toNat f2.toNat f3.toNat op a' b2 cc n _ HF4.out HDc.out HM.out).mono ?_
          rintro e u1 ⟨rfl, hg1⟩
          have HU1 := Lib.hid (((Chg.refl Non W0).drew).then_non hg1)
          have hsz := HU1.out.size
          clear hg1
          refine hK.out _ _ HU1.out (fun _ => ?_)
          clear hK K
          refine h_pure 25 (some 70) (.tuple #[.agg #[.int .u8 op, .int .u8 a', .int .u8 b2, .int .u8 cc, .int .i64 (n : Nat)], .int .i64 0]) rfl (by kernel_rfl) (by kernel_rfl) (by kernel_rfl) (by kernel_rfl) (fun _ _ _ h => absurd h.1 (by simp)) (by kernel_rfl) (fun W hW => by go_simp) HU1.out ?_
          simp only [Act.put, List.setIfInBounds_toArray, List.set_cons_zero, List.set_cons_succ]
          refine h_pure 26 (some 96) (.agg #[.int .u8 op, .int .u8 a', .int .u8 b2, .int .u8 cc, .int .i64 (n : Nat)]) rfl (by kernel_rfl) (by kernel_rfl) (by kernel_rfl) (by kernel_rfl) (fun _ _ _ h => absurd h.1 (by simp)) (by kernel_rfl) (fun W hW => by go_simp) HU1.out ?_
          simp only [Act.put, List.setIfInBounds_toArray, List.set_cons_zero, List.set_cons_succ]
          refine h_pure 27 (some 97) (.int .i64 0) rfl (by kernel_rfl) (by kernel_rfl) (by kernel_rfl) (by kernel_rfl) (fun _ _ _ h => absurd h.1 (by simp)) (by kernel_rfl) (fun W hW => by go_simp) HU1.out ?_
          simp only [Act.put, List.setIfInBounds_toArray, List.set_cons_zero, List.set_cons_succ]
          refine h_one 28 (by kernel_rfl) rfl (by kernel_rfl) ?_
          intro K hK
          go_simp
          refine hK.out _ _ (HU1.out.alloc _) (fun _ => ?_)
          clear hK K
          refine h_store 29 38 (.tmp 9) (.tmp 96) u1.heap.size #[.int .u8 op, .int .u8 a', .int .u8 b2, .int .u8 cc, .int .i64 (n : Nat)] (by kernel_rfl) rfl (by kernel_rfl) rfl rfl rfl rfl 38 ⟨#[.int .u8 0, .int .u8 0, .int .u8 0, .int .u8 0, .int .i64 0], heap_alloc_new _ _, rfl⟩ (by kernel_rfl) (by simp [Value.oneCell']) (fun W hg hb => (HU1.out.alloc _).then_new hg (fun x e => by have := e; omega)) ?_
          intro W hgW hbW
          refine h_pure 30 (some 10) (.int .i64 0) rfl (by kernel_rfl) (by kernel_rfl) (by kernel_rfl) (by kernel_rfl) (fun _ _ _ h => absurd h.1 (by simp)) (by kernel_rfl) (fun W hW => by go_simp) ((HU1.out.alloc _).then_new hgW (fun x e => by have := e; omega)) ?_
          simp only [Act.put, List.setIfInBounds_toArray, List.set_cons_zero, List.set_cons_succ]
          refine wpAnyH_done (by kernel_rfl) ?_ _
          exact ⟨rfl, u1.heap.size, by kernel_rfl, hbW, (HU1.out.alloc _).then_new hgW (fun x e => by have := e; omega), by omega⟩
        · intro K hK
          go_simp
          refine hK.out _ _ (((Chg.refl Non _).drew).alloc _) (fun _ => ?_)
          clear hK K
          refine h_one 24 (by kernel_rfl) rfl (by kernel_rfl) ?_
          intro K hK
          go_simp
          refine (Dec_v f0.toNat f1.toNat f2.toNat f3.toNat op a' b2 cc n _ HF4.out HDc.out HM.out).mono ?_
          rintro e u1 ⟨rfl, hg1⟩
          have HU1 := Lib.hid ((((Chg.refl Non W0).drew).alloc _).then_non hg1)
          have HB1 := Lib.hid (blockN hg1 (heap_alloc_new W0.drew _))
          have hyd : W0.drew.heap.size = W0.heap.size := rfl
          clear hg1
          refine hK.out _ _ HU1.out (fun _ => ?_)
          clear hK K
          refine h_pure 25 (some 70) (.tuple #[.agg #[.int .u8 op, .int .u8 a', .int .u8 b2, .int .u8 cc, .int .i64 (n : Nat)], .int .i64 0]) rfl (by kernel_rfl) (by kernel_rfl) (by kernel_rfl) (by kernel_rfl) (fun _ _ _ h => absurd h.1 (by simp)) (by kernel_rfl) (fun W hW => by go_simp) HU1.out ?_
          simp only [Act.put, List.setIfInBounds_toArray, List.set_cons_zero, List.set_cons_succ]
          refine h_pure 26 (some 96) (.agg #[.int .u8 op, .int .u8 a', .int .u8 b2, .int .u8 cc, .int .i64 (n : Nat)]) rfl (by kernel_rfl) (by kernel_rfl) (by kernel_rfl) (by kernel_rfl) (fun _ _ _ h => absurd h.1 (by simp)) (by kernel_rfl) (fun W hW => by go_simp) HU1.out ?_
          simp only [Act.put, List.setIfInBounds_toArray, List.set_cons_zero, List.set_cons_succ]
          refine h_pure 27 (some 97) (.int .i64 0) rfl (by kernel_rfl) (by kernel_rfl) (by kernel_rfl) (by kernel_rfl) (fun _ _ _ h => absurd h.1 (by simp)) (by kernel_rfl) (fun W hW => by go_simp) HU1.out ?_
          simp only [Act.put, List.setIfInBounds_toArray, List.set_cons_zero, List.set_cons_succ]
          refine h_store 29 38 (.tmp 9) (.tmp 96) W0.heap.size #[.int .u8 op, .int .u8 a', .int .u8 b2, .int .u8 cc, .int .i64 (n : Nat)] (by kernel_rfl) rfl (by kernel_rfl) rfl rfl rfl rfl 38 ⟨#[.int .u8 0, .int .u8 0, .int .u8 0, .int .u8 0, .int .i64 0], HB1.out, rfl⟩ (by kernel_rfl) (by simp [Value.oneCell']) (fun W hg hb => HU1.out.then_new hg (fun x e => by have := e; omega)) ?_
          intro W hgW hbW
          refine h_pure 30 (some 10) (.int .i64 0) rfl (by kernel_rfl) (by kernel_rfl) (by kernel_rfl) (by kernel_rfl) (fun _ _ _ h => absurd h.1 (by simp)) (by kernel_rfl) (fun W hW => by go_simp) (HU1.out.then_new hgW (fun x e => by have := e; omega)) ?_
          simp only [Act.put, List.setIfInBounds_toArray, List.set_cons_zero, List.set_cons_succ]
          refine wpAnyH_done (by kernel_rfl) ?_ _
          exact ⟨rfl, W0.heap.size, by kernel_rfl, hbW, HU1.out.then_new hgW (fun x e => by have := e; omega), by omega⟩
      rintro ob u ⟨hob, hgu, hle⟩
      simp only [Act.put, List.setIfInBounds_toArray, List.set_cons_zero, List.set_cons_succ]
      have HG := Lib.hid (HG.out.then_non hgu)
      have HP := Lib.hid (HP.out.non hgu)
      have HR := Lib.hid (HR.out.non hgu)
      have HOb := Lib.hid hob
      obtain ⟨⟨z, o0, o1, o2, o3, o4⟩, _⟩ := (Blk5.mk hob).all
      have hbi : (b2 : Int) < 8 := by omega
      have hb8 : b2 < 8 := hx1.2.2.1
      have hop22 : op < 22 := hx1.1
      have hn16 : n < 65536 := hx1.2.2.2.2
      have hgb := HP.out.reg b2 hb8
      have hgm : p.g b2 < 4294967296 := HBd.out.rb b2
      obtain ⟨r, hr⟩ : ∃ r, p.g b2 = r := ⟨_, rfl⟩
      rw [hr] at hgb hgm
      have HRg := Lib.hid hr
      have hmd : (b2 : Int).tmod 8 = (b2 : Int) := by rw [Int.tmod_eq_emod_of_nonneg (by omega)]; omega
      have wrn : IntKind.i64.wrap ((r : Int) + (n : Int)) = (r : Int) + (n : Int) := Go.IntWalk.i64_in _ (by omega)
      have wr0 : IntKind.i64.wrap (r : Int) = (r : Int) := Go.IntWalk.i64_in _ (by omega)
      clear hob hgu e0 e1 e2 e3 q1 q2 q3 i0 i1 i2 i3 j0 hr hx1 w1 w2 w3
      go_wp2_with fail
      refine wp_region_held_drew (S := fun W => Chg Non u W) (by kernel_rfl) ((Chg.refl Non _).drew) (fun hHeld => ?_)
      clear hHeld
      refine h_pure 0 (some 101) (.pointer (some ⟨ob, 2, none⟩)) rfl (by kernel_rfl) (by kernel_rfl) (by kernel_rfl) (by kernel_rfl) (fun _ _ _ h => h) (by kernel_rfl) (fun W hW => by go_simp) ((Chg.refl Non _).drew) ?_
      simp only [Act.put, List.setIfInBounds_toArray, List.set_cons_zero, List.set_cons_succ]
      refine h_pure 1 (some 102) (.int .u8 b2) rfl (by kernel_rfl) (by kernel_rfl) (by kernel_rfl) (by kernel_rfl) (fun _ _ _ h => h) (by kernel_rfl) (fun W hW => by have hq := hW.cell_some o2 (fun e => e); go_simp) ((Chg.refl Non _).drew) ?_
      simp only [Act.put, List.setIfInBounds_toArray, List.set_cons_zero, List.set_cons_succ]
      refine h_pure 2 (some 103) (.int .u8 b2) rfl (by kernel_rfl) (by kernel_rfl) (by kernel_rfl) (by kernel_rfl) (fun _ _ _ h => h) (by kernel_rfl) (fun W hW => by go_simp) ((Chg.refl Non _).drew) ?_
      simp only [Act.put, List.setIfInBounds_toArray, List.set_cons_zero, List.set_cons_succ]
      refine h_pure 3 (some 104) (.pointer (some ⟨w.heap.size, 3, none⟩)) rfl (by kernel_rfl) (by kernel_rfl) (by kernel_rfl) (by kernel_rfl) (fun _ _ _ h => h) (by kernel_rfl) (fun W hW => by go_simp) ((Chg.refl Non _).drew) ?_
      simp only [Act.put, List.setIfInBounds_toArray, List.set_cons_zero, List.set_cons_succ]
      refine h_pure 4 (some 105) (.pointer (some ⟨w.heap.size, 3 + b2, none⟩)) rfl (by kernel_rfl) (by kernel_rfl) (by kernel_rfl) (by kernel_rfl) (fun _ _ _ h => h) (by kernel_rfl) (fun W hW => by go_simp) ((Chg.refl Non _).drew) ?_
      simp only [Act.put, List.setIfInBounds_toArray, List.set_cons_zero, List.set_cons_succ]
      refine h_pure 5 (some 106) (.int .u32 r) rfl (by kernel_rfl) (by kernel_rfl) (by kernel_rfl) (by kernel_rfl) (fun _ _ _ h => h) (by kernel_rfl) (fun W hW => by have hq := hW.cell_some hgb (fun e => e); go_simp) ((Chg.refl Non _).drew) ?_
      simp only [Act.put, List.setIfInBounds_toArray, List.set_cons_zero, List.set_cons_succ]
      refine h_pure 6 (some 107) (.int .i64 r) rfl (by kernel_rfl) (by kernel_rfl) (by kernel_rfl) (by kernel_rfl) (fun _ _ _ h => h) (by kernel_rfl) (fun W hW => by go_simp) ((Chg.refl Non _).drew) ?_
      simp only [Act.put, List.setIfInBounds_toArray, List.set_cons_zero, List.set_cons_succ]
      refine h_pure 7 (some 108) (.pointer (some ⟨ob, 4, none⟩)) rfl (by kernel_rfl) (by kernel_rfl) (by kernel_rfl) (by kernel_rfl) (fun _ _ _ h => h) (by kernel_rfl) (fun W hW => by go_simp) ((Chg.refl Non _).drew) ?_
      simp only [Act.put, List.setIfInBounds_toArray, List.set_cons_zero, List.set_cons_succ]
      refine h_pure 8 (some 109) (.int .i64 n) rfl (by kernel_rfl) (by kernel_rfl) (by kernel_rfl) (by kernel_rfl) (fun _ _ _ h => h) (by kernel_rfl) (fun W hW => by have hq := hW.cell_some o4 (fun e => e); go_simp) ((Chg.refl Non _).drew) ?_
      simp only [Act.put, List.setIfInBounds_toArray, List.set_cons_zero, List.set_cons_succ]
      refine h_pure 9 (some 110) (.int .i64 ((r : Int) + (n : Int))) rfl (by kernel_rfl) (by kernel_rfl) (by kernel_rfl) (by kernel_rfl) (fun _ _ _ h => h) (by kernel_rfl) (fun W hW => by go_simp) ((Chg.refl Non _).drew) ?_
      simp only [Act.put, List.setIfInBounds_toArray, List.set_cons_zero, List.set_cons_succ]
      refine h_pure 10 (some 11) (.int .i64 ((r : Int) + (n : Int))) rfl (by kernel_rfl) (by kernel_rfl) (by kernel_rfl) (by kernel_rfl) (fun _ _ _ h => h) (by kernel_rfl) (fun W hW => by go_simp) ((Chg.refl Non _).drew) ?_
      simp only [Act.put, List.setIfInBounds_toArray, List.set_cons_zero, List.set_cons_succ]
      refine wpAnyH_done (by kernel_rfl) ?_ _
      have HP := Lib.hid (HP.out.non ((Chg.refl Non _).drew))
      have HR := Lib.hid (HR.out.non ((Chg.refl Non _).drew))
      have HG := Lib.hid (HG.out.drew)
      have o0' : u.drew.cell? ⟨ob, 0, none⟩ = some (.int .u8 op) := o0
      clear z o0 o1 o2 o3 o4 hgb hmd wrn wr0
      generalize u.drew = u7 at HP HR HG o0' ⊢
      have q1 := nm_lb op hop22
      have q2 := nm_lw op hop22
      have q3 := nm_sb op hop22
      have q4 := nm_sw op hop22
      obtain ⟨N, hN⟩ : ∃ N, (opAt op).name = N := ⟨_, rfl⟩
      have HNm : Hid (∀ W, Calls Tryz.prog 17 #[.int .u8 op] W fun e w' => e = .returned (.string ⟨N.toArray⟩) ∧ Chg Non W w') := Lib.hid (fun W => by have h := Name_ok op W; rw [hN] at h; exact h)
      rw [hN] at q1 q2 q3 q4
      clear hN
      go_wp2_with fail
      refine (HNm.out _).mono ?_
      rintro e y1 ⟨rfl, hg⟩
      have HP := Lib.hid (HP.out.non hg)
      have HR := Lib.hid (HR.out.non hg)
      have HG := Lib.hid (HG.out.then_non hg)
      clear hg o0'
      obtain ⟨tn, htn⟩ : ∃ tn : Nat, r + n = tn := ⟨_, rfl⟩
      have htni : (r : Int) + (n : Int) = (tn : Int) := by omega
      rw [htni]
      have htb : tn < 4295032832 := by omega
      have HTn := Lib.hid htn
      clear htn htni
      by_cases hmv : memB op = true → k < tn ∨ tn + 4 ≤ k
      · skip
        go_wp2_with (first
          | (refine sel (some 115) (.binOp _ _ _ _ _) ?_; refine Vm_stop ?_))
        refine HoleV.mk ?_
        refine wpList_cut (α := Nat → Value) (fun y x => (((((((((((((((((((((((x.put (some 115) (y 115)).put (some 116) (y 116)).put (some 117) (y 117)).put (some 118) (y 118)).put (some 119) (y 119)).put (some 120) (y 120)).put (some 121) (y 121)).put (some 122) (y 122)).put (some 123) (y 123)).put (some 124) (y 124)).put (some 125) (y 125)).put (some 126) (y 126)).put (some 127) (y 127)).put (some 128) (y 128)).put (some 129) (y 129)).put (some 130) (y 130)).put (some 131) (y 131)).put (some 132) (y 132)).put (some 133) (y 133)).put (some 134) (y 134)).put (some 135) (y 135)).put (some 136) (y 136)).put (some 137) (y 137)).put (some 138) (.bool false)) (fun _ v => y1 = v) ?_ ?_
        · by_cases hme : memB op = true
          · have hme2 : op = 13 ∨ op = 15 ∨ op = 14 ∨ op = 16 := by simp [memB] at hme; omega
            have hkk := hmv hme
            clear hmv hme
            rcases hme2 with ho | ho | ho | ho
            · rcases hkk with hk1 | hk1
              · rw [decide_eq_true (show op = 13 by omega)] at q1
                have t6 : decide ((k : Int) ≥ (tn : Int)) = false := by rw [decide_eq_false_iff_not]; omega
                go_wp2_with fail
                exact ⟨(fun i : Nat => if i = 115 then .bool true else if i = 116 then .bool true else if i = 119 then .bool true else if i = 120 then .bool true else if i = 123 then .bool true else if i = 124 then .bool true else if i = 127 then .bool true else if i = 128 then .bool true else if i = 129 then .int .i64 k else if i = 130 then .int .i64 tn else if i = 131 then .bool false else if i = 132 then .bool false else if i = 133 then .bool false else undef), by kernel_rfl, rfl⟩
              · rw [decide_eq_true (show op = 13 by omega)] at q1
                have t6 : decide ((k : Int) ≥ (tn : Int)) = true := by rw [decide_eq_true_eq]; omega
                have t7 : decide ((k : Int) < (tn : Int) + 4) = false := by rw [decide_eq_false_iff_not]; omega
                go_wp2_with fail
                exact ⟨(fun i : Nat => if i = 115 then .bool true else if i = 116 then .bool true else if i = 119 then .bool true else if i = 120 then .bool true else if i = 123 then .bool true else if i = 124 then .bool true else if i = 127 then .bool true else if i = 128 then .bool true else if i = 129 then .int .i64 k else if i = 130 then .int .i64 tn else if i = 131 then .bool true else if i = 132 then .bool true else if i = 133 then .bool true else if i = 134 then .int .i64 k else if i = 135 then .int .i64 tn else if i = 136 then .int .i64 ((tn : Int) + 4) else if i = 137 then .bool false else undef), by kernel_rfl, rfl⟩
            · rcases hkk with hk1 | hk1
              · rw [decide_eq_false (show ¬ op = 13 by omega)] at q1
                rw [decide_eq_true (show op = 15 by omega)] at q2
                have t6 : decide ((k : Int) ≥ (tn : Int)) = false := by rw [decide_eq_false_iff_not]; omega
                go_wp2_with fail
                exact ⟨(fun i : Nat => if i = 115 then .bool false else if i = 116 then .bool false else if i = 117 then .string ⟨N.toArray⟩ else if i = 118 then .bool true else if i = 119 then .bool true else if i = 120 then .bool true else if i = 123 then .bool true else if i = 124 then .bool true else if i = 127 then .bool true else if i = 128 then .bool true else if i = 129 then .int .i64 k else if i = 130 then .int .i64 tn else if i = 131 then .bool false else if i = 132 then .bool false else if i = 133 then .bool false else undef), by kernel_rfl, rfl⟩
              · rw [decide_eq_false (show ¬ op = 13 by omega)] at q1
                rw [decide_eq_true (show op = 15 by omega)] at q2
                have t6 : decide ((k : Int) ≥ (tn : Int)) = true := by rw [decide_eq_true_eq]; omega
                have t7 : decide ((k : Int) < (tn : Int) + 4) = false := by rw [decide_eq_false_iff_not]; omega
                go_wp2_with fail
                exact ⟨(fun i : Nat => if i = 115 then .bool false else if i = 116 then .bool false else if i = 117 then .string ⟨N.toArray⟩ else if i = 118 then .bool true else if i = 119 then .bool true else if i = 120 then .bool true else if i = 123 then .bool true else if i = 124 then .bool true else if i = 127 then .bool true else if i = 128 then .bool true else if i = 129 then .int .i64 k else if i = 130 then .int .i64 tn else if i = 131 then .bool true else if i = 132 then .bool true else if i = 133 then .bool true else if i = 134 then .int .i64 k else if i = 135 then .int .i64 tn else if i = 136 then .int .i64 ((tn : Int) + 4) else if i = 137 then .bool false else undef), by kernel_rfl, rfl⟩
            · rcases hkk with hk1 | hk1
              · rw [decide_eq_false (show ¬ op = 13 by omega)] at q1
                rw [decide_eq_false (show ¬ op = 15 by omega)] at q2
                rw [decide_eq_true (show op = 14 by omega)] at q3
                have t6 : decide ((k : Int) ≥ (tn : Int)) = false := by rw [decide_eq_false_iff_not]; omega
                go_wp2_with fail
                exact ⟨(fun i : Nat => if i = 115 then .bool false else if i = 116 then .bool false else if i = 117 then .string ⟨N.toArray⟩ else if i = 118 then .bool false else if i = 119 then .bool false else if i = 120 then .bool false else if i = 121 then .string ⟨N.toArray⟩ else if i = 122 then .bool true else if i = 123 then .bool true else if i = 124 then .bool true else if i = 127 then .bool true else if i = 128 then .bool true else if i = 129 then .int .i64 k else if i = 130 then .int .i64 tn else if i = 131 then .bool false else if i = 132 then .bool false else if i = 133 then .bool false else undef), by kernel_rfl, rfl⟩
              · rw [decide_eq_false (show ¬ op = 13 by omega)] at q1
                rw [decide_eq_false (show ¬ op = 15 by omega)] at q2
                rw [decide_eq_true (show op = 14 by omega)] at q3
                have t6 : decide ((k : Int) ≥ (tn : Int)) = true := by rw [decide_eq_true_eq]; omega
                have t7 : decide ((k : Int) < (tn : Int) + 4) = false := by rw [decide_eq_false_iff_not]; omega
                go_wp2_with fail
                exact ⟨(fun i : Nat => if i = 115 then .bool false else if i = 116 then .bool false else if i = 117 then .string ⟨N.toArray⟩ else if i = 118 then .bool false else if i = 119 then .bool false else if i = 120 then .bool false else if i = 121 then .string ⟨N.toArray⟩ else if i = 122 then .bool true else if i = 123 then .bool true else if i = 124 then .bool true else if i = 127 then .bool true else if i = 128 then .bool true else if i = 129 then .int .i64 k else if i = 130 then .int .i64 tn else if i = 131 then .bool true else if i = 132 then .bool true else if i = 133 then .bool true else if i = 134 then .int .i64 k else if i = 135 then .int .i64 tn else if i = 136 then .int .i64 ((tn : Int) + 4) else if i = 137 then .bool false else undef), by kernel_rfl, rfl⟩
            · rcases hkk with hk1 | hk1
              · rw [decide_eq_false (show ¬ op = 13 by omega)] at q1
                rw [decide_eq_false (show ¬ op = 15 by omega)] at q2
                rw [decide_eq_false (show ¬ op = 14 by omega)] at q3
                rw [decide_eq_true (show op = 16 by omega)] at q4
                have t6 : decide ((k : Int) ≥ (tn : Int)) = false := by rw [decide_eq_false_iff_not]; omega
                go_wp2_with fail
                exact ⟨(fun i : Nat => if i = 115 then .bool false else if i = 116 then .bool false else if i = 117 then .string ⟨N.toArray⟩ else if i = 118 then .bool false else if i = 119 then .bool false else if i = 120 then .bool false else if i = 121 then .string ⟨N.toArray⟩ else if i = 122 then .bool false else if i = 123 then .bool false else if i = 124 then .bool false else if i = 125 then .string ⟨N.toArray⟩ else if i = 126 then .bool true else if i = 127 then .bool true else if i = 128 then .bool true else if i = 129 then .int .i64 k else if i = 130 then .int .i64 tn else if i = 131 then .bool false else if i = 132 then .bool false else if i = 133 then .bool false else undef), by kernel_rfl, rfl⟩
              · rw [decide_eq_false (show ¬ op = 13 by omega)] at q1
                rw [decide_eq_false (show ¬ op = 15 by omega)] at q2
                rw [decide_eq_false (show ¬ op = 14 by omega)] at q3
                rw [decide_eq_true (show op = 16 by omega)] at q4
                have t6 : decide ((k : Int) ≥ (tn : Int)) = true := by rw [decide_eq_true_eq]; omega
                have t7 : decide ((k : Int) < (tn : Int) + 4) = false := by rw [decide_eq_false_iff_not]; omega
                go_wp2_with fail
                exact ⟨(fun i : Nat => if i = 115 then .bool false else if i = 116 then .bool false else if i = 117 then .string ⟨N.toArray⟩ else if i = 118 then .bool false else if i = 119 then .bool false else if i = 120 then .bool false else if i = 121 then .string ⟨N.toArray⟩ else if i = 122 then .bool false else if i = 123 then .bool false else if i = 124 then .bool false else if i = 125 then .string ⟨N.toArray⟩ else if i = 126 then .bool true else if i = 127 then .bool true else if i = 128 then .bool true else if i = 129 then .int .i64 k else if i = 130 then .int .i64 tn else if i = 131 then .bool true else if i = 132 then .bool true else if i = 133 then .bool true else if i = 134 then .int .i64 k else if i = 135 then .int .i64 tn else if i = 136 then .int .i64 ((tn : Int) + 4) else if i = 137 then .bool false else undef), by kernel_rfl, rfl⟩
          · have hme2 : op ≠ 13 ∧ op ≠ 15 ∧ op ≠ 14 ∧ op ≠ 16 := by simp [memB] at hme; omega
            rw [decide_eq_false (show ¬ op = 13 by omega)] at q1
            rw [decide_eq_false (show ¬ op = 15 by omega)] at q2
            rw [decide_eq_false (show ¬ op = 14 by omega)] at q3
            rw [decide_eq_false (show ¬ op = 16 by omega)] at q4
            go_wp2_with fail
            exact ⟨(fun i : Nat => if i = 115 then .bool false else if i = 116 then .bool false else if i = 117 then .string ⟨N.toArray⟩ else if i = 118 then .bool false else if i = 119 then .bool false else if i = 120 then .bool false else if i = 121 then .string ⟨N.toArray⟩ else if i = 122 then .bool false else if i = 123 then .bool false else if i = 124 then .bool false else if i = 125 then .string ⟨N.toArray⟩ else if i = 126 then .bool false else if i = 127 then .bool false else if i = 128 then .bool false else if i = 132 then .bool false else if i = 133 then .bool false else undef), by kernel_rfl, rfl⟩
        rintro y9 v rfl
        simp only [Act.put, List.setIfInBounds_toArray, List.set_cons_zero, List.set_cons_succ]
        clear q1 q2 q3 q4
        obtain ⟨id2, hid2⟩ : ∃ i, IntKind.i64.wrap (p.id + 1) = i := ⟨_, rfl⟩
        have hidb := HBd.out.idb
        have hid3 : IntKind.i64.wrap (id2 - 1) = p.id := by rw [← hid2, IntKind.wrap_i64, IntKind.wrap_i64]; omega
        have hid4 : -9223372036854775808 ≤ id2 ∧ id2 ≤ 9223372036854775807 := by rw [← hid2, IntKind.wrap_i64]; omega
        have hbl := blind_law p id2 k x _ HFe.out (by have := HSv.out; omega) (by intro h; have h1 := hmv h; have h2 := HTn.out; have h3 := HRg.out; simp only at h1 ⊢; rw [h3]; simp only [Int.toNat_natCast]; omega)
        have hsb := step_bd HBd.out
        have HIds := Lib.hid (And.intro hid2 hid3)
        clear hid2 hid3 hmv
        have hbm1 : bm < y1.heap.size := rd_lt HR.out bm om rfl (by intro e; rw [e] at h0; exact h0 rfl)
        have hne : w.heap.size < y1.heap.size := HP.out.lt
        go_wp2_with (first
          | (refine sel (some 140) (.load _ (.tmp 3)) ?_; refine Vm_stop ?_))
        refine HoleV.mk ?_
        refine wpList_load_row rfl 26 (.tmp 3) rfl w.heap.size rfl 26 _ (0, 0) _ HP.out.out Tryz.underlying26 rfl (by rw [partC_size HP.out.len]; exact info_part) ?_
        go_wp2_with (first
          | (refine sel none (.store _ (.tmp 13) (.tmp 140)) ?_; refine Vm_stop ?_))
        refine HoleV.mk ?_
        refine wpList_store_rowA rfl 26 (.tmp 13) (.tmp 140) rfl y1.heap.size (partC p (.slice (some ⟨bm, om, none⟩) p.mem.length c)) rfl rfl 26 zeroPart (heap_alloc_new y1 _) (by rw [partC_size HBd.out.r8]; exact info_part) (by rw [partC_size HBd.out.r8]; rfl) (partC_one _ _ rfl) ?_
        intro w2 hgW hbW
        have hgn : Chg Non y1 w2 := ((Chg.refl Non y1).alloc (.cells zeroPart 26)).then_new hgW (fun x e => by omega)
        have HP_q : Hid (PartB w2 y1.heap.size p (.slice (some ⟨bm, om, none⟩) p.mem.length c)) := Lib.hid ⟨hbW, HBd.out.r8⟩
        have HG := Lib.hid (HG.out.then_non hgn)
        have HP := Lib.hid (HP.out.non hgn)
        have HR := Lib.hid (HR.out.non hgn)
        clear hgW hbW hgn
        obtain ⟨bq, hbq⟩ : ∃ b, y1.heap.size = b := ⟨_, rfl⟩
        rw [hbq] at HP_q hne hbm1 ⊢
        clear hbq
        obtain ⟨a0, a1, a2, a3, a4, a5⟩ := HP_q.out.cells
        have lq := HP_q.out.lt
        have fq0 := HP_q.out.frozen 0
        have hidw := HIds.out.1
        go_wp2_with (first
          | (refine sel (some 146) (.load _ (.tmp 145)) ?_; refine Vm_stop ?_))
        refine HoleV.mk ?_
        clear a0 a1 a2 a3 a4 a5 lq fq0 hidw
        have hs1 := setAt w2 bq 0 (.int .i64 id2)
        have HQ_w3 := Lib.hid (HP_q.out.setId id2)
        have HP := Lib.hid (HP.out.keep hs1 (show ¬ w.heap.size = bq by omega))
        have HR := Lib.hid (HR.out.keep hs1 (fun b o e1 e2 => by injection e1 with e1; injection e1 with e1 _ _; omega))
        have HG := Lib.hid (HG.out.then_new hs1 (fun x e => by omega))
        clear hs1
        generalize w2.setCell ⟨bq, 0, none⟩ (.int .i64 id2) = w3 at HQ_w3 HP HR HG ⊢
        have a2 := HQ_w3.out.cells.2.2.1
        have lq := HQ_w3.out.lt
        have fq2 := HQ_w3.out.frozen 2
        have hs2 := setAt w3 bq 2 (.bool (!p.keep))
        have HQ4 := Lib.hid (HQ_w3.out.setKeep (!p.keep))
        have HP4 := Lib.hid (HP.out.keep hs2 (show ¬ w.heap.size = bq by omega))
        have HR4 := Lib.hid (HR.out.keep hs2 (fun b o e1 e2 => by injection e1 with e1; injection e1 with e1 _ _; omega))
        have HG4 := Lib.hid (HG.out.then_new hs2 (fun x e => by omega))
        have hsz4 : (w3.setCell ⟨bq, 2, none⟩ (.bool (!p.keep))).heap.size = w3.heap.size := by simp [World.setCell]
        have c13 := (HP4.out.non ((Chg.refl Non _).alloc (.cells #[] 5))).cells.2.2.2.2.2
        simp only at a2
        clear hs2
        go_wp2_with (first
          | (refine sel (some 152) (.call _) ?_; refine Vm_stop ?_))
        refine HoleV.mk ?_
        refine wpList_appB rfl (.tmp 149) (.tmp 151) rfl w3.heap.size (.slice (some ⟨w3.heap.size, 0, none⟩) 0 0) [] rfl (by have h := own_emptyR (w3.setCell ⟨bq, 2, none⟩ (.bool (!p.keep))); rw [hsz4] at h; exact h) (some ⟨bm, om, none⟩) c p.mem rfl (HR4.out.non ((Chg.refl Non _).alloc _)) (by simp) (by have := HLn.out; omega) (by simp [World.setCell]) (by have := HLn.out; simp; omega) ?_
        intro v2 w5 ho hg hat
        obtain ⟨A5, c5, rfl, m1, m2, m3⟩ := OwnR.own ho
        rw [List.nil_append] at m3 m1 ho hat ⊢
        obtain ⟨b5, o5, rfl, hb5, _⟩ := m3.rd.at_ (by omega)
        have hge5 : w3.heap.size ≤ b5 := m3.ge (by intro e; rw [e] at h0; exact h0 rfl)
        have hgn : Chg Non (w3.setCell ⟨bq, 2, none⟩ (.bool (!p.keep))) w5 := ((Chg.refl Non _).alloc _).then_new hg (fun x e => by rw [hsz4]; exact (own_emptyR (w3.setCell ⟨bq, 2, none⟩ (.bool (!p.keep)))).ge (by rw [hsz4]; exact e) |> fun h => by rw [hsz4] at h; exact h)
        have HQ5 := Lib.hid (HQ4.out.non hgn)
        have HP := Lib.hid (HP4.out.non hgn)
        have HR := Lib.hid (HR4.out.non hgn)
        have HG := Lib.hid (HG4.out.then_non hgn)
        have HO := Lib.hid m3
        have d13 := HQ5.out.cells.2.2.2.2.2
        have lq := HQ5.out.lt
        have fq13 := HQ5.out.frozen 13
        clear hg hat ho m3 hgn a2 fq2 hsz4 c13 HP4 HR4 HG4
        go_wp2_with (first
          | (refine sel (some 155) (.load _ (.tmp 154)) ?_; refine Vm_stop ?_))
        refine HoleV.mk ?_
        have hs1 := setAt w5 bq 13 (.slice (some ⟨b5, o5, none⟩) p.mem.length c5)
        have HQ6 := Lib.hid (HQ5.out.setMem (.slice (some ⟨b5, o5, none⟩) p.mem.length c5))
        have HP := Lib.hid (HP.out.keep hs1 (show ¬ w.heap.size = bq by omega))
        have HR := Lib.hid (HR.out.keep hs1 (fun b o e1 e2 => by injection e1 with e1; injection e1 with e1 _ _; omega))
        have HO := Lib.hid (HO.out.keep hs1 (fun b o e1 e2 e3 => by injection e1 with e1; injection e1 with e1 _ _; omega))
        have HG := Lib.hid (HG.out.then_new hs1 (fun x e => by omega))
        clear hs1 d13 fq13
        generalize w5.setCell ⟨bq, 13, none⟩ (.slice (some ⟨b5, o5, none⟩) p.mem.length c5) = w6 at HQ6 HP HR HO HG ⊢
        have d13 := HQ6.out.cells.2.2.2.2.2
        have ek := u8_cell HO.out.rd k hkN
        obtain ⟨_, _, ee, _, hcc, hfr⟩ := HO.out k _ (List.getElem?_eq_getElem hkN)
        injection ee with ee
        injection ee with ee1 ee2 _
        subst ee1 ee2
        have lb5 := lt_of_cell hcc
        have hms := modify_set p.mem k x
        have HO7 := Lib.hid (HO.out.setByte k hkN (p.mem.getD k 0 ^^^ x))
        rw [← hms] at HO7
        obtain ⟨yk, hyk⟩ : ∃ y, p.mem.getD k 0 = y := ⟨_, rfl⟩
        rw [hyk] at ek HO7
        have hxor := xor_u8 yk x
        obtain ⟨zk, hzk⟩ : ∃ z, yk ^^^ x = z := ⟨_, rfl⟩
        rw [hzk] at hxor HO7
        have hs1 : Chg (fun b => b = b5) w6 (w6.setCell ⟨b5, o5 + k, none⟩ (.int .u8 (zk.toNat : Nat))) := (Chg.refl (fun b => b = b5) _).setCell (.inl rfl) _
        have HQ7 := Lib.hid (HQ6.out.keep hs1 (show ¬ bq = b5 by omega))
        have HP7 := Lib.hid (HP.out.keep hs1 (show ¬ w.heap.size = b5 by omega))
        have HR7 := Lib.hid (HR.out.keep hs1 (fun b o e1 e2 => by injection e1 with e1; injection e1 with e1 _ _; omega))
        have HG7 := Lib.hid (HG.out.then_new hs1 (fun x e => by omega))
        have hki : (k : Int) < (p.mem.length : Int) := by omega
        clear hs1 hyk hzk hcc hms
        go_wp2_with (first
          | (refine sel (some 163) (.load _ (.tmp 3)) ?_; refine Vm_stop ?_))
        refine HoleV.mk ?_
        generalize w6.setCell ⟨b5, o5 + k, none⟩ (.int .u8 (zk.toNat : Nat)) = w7 at HQ7 HP7 HR7 HO7 HG7 ⊢
        clear ek hfr hxor d13 lb5 HP HR HG HQ6 HO lq
        have HQ7 : Hid (PartB w7 bq (p.other id2 k x) (.slice (some ⟨b5, o5, none⟩) p.mem.length c5)) := Lib.hid ⟨HQ7.out.out, HQ7.out.len⟩
        obtain ⟨⟨qa, ka, ea⟩, hsv⟩ : ∃ r, stepV p = r := ⟨_, rfl⟩
        have hma : qa.mem.length = p.mem.length := by have := step_mem p; rw [hsv] at this; exact this
        have hbo : (p.other id2 k x).Bd := ⟨HBd.out.r8, HBd.out.rb, HBd.out.pcb, HBd.out.stb, hid4, HBd.out.sizeb⟩
        have hmo : (p.other id2 k x).mem.length = p.mem.length := by simp [Pt.other]
        obtain ⟨⟨qb, kb, eb⟩, hsw⟩ : ∃ r, stepV (p.other id2 k x) = r := ⟨_, rfl⟩
        have hmb : qb.mem.length = p.mem.length := by have := step_mem (p.other id2 k x); rw [hsw, hmo] at this; exact this
        have hbib : qb.id = id2 := by have := step_id (p.other id2 k x); rw [hsw] at this; exact this
        rw [hsv, hsw] at hbl
        rw [hsv] at hsb
        simp only at hbl hsb
        obtain ⟨hbl1, rfl, rfl⟩ := hbl
        have hqb8 : qb.r.length = 8 := by have := (step_bd hbo).1.r8; rw [hsw] at this; exact this
        have hqa8 := hsb.1.r8
        have HSb := Lib.hid hsb.1
        have HBl := Lib.hid hbl1
        have HSV := Lib.hid hsv
        have HSW := Lib.hid hsw
        have HBo := Lib.hid hbo
        have HId := Lib.hid hbib
        have HMa := Lib.hid hma
        have HMb := Lib.hid hmb
        have HMo := Lib.hid hmo
        clear hbl1 hsb hsv hsw hbo hbib hma hmb hmo
        refine wpList_load_row rfl 26 (.tmp 3) rfl w.heap.size rfl 26 _ (0, 0) _ HP7.out.out Tryz.underlying26 rfl (by rw [partC_size HP7.out.len]; exact info_part) ?_
        go_wp2_with fail
        have hrun := Step_ok p (some ⟨bm, om, none⟩) c w7 HBd.out HR7.out (by have := HLn.out; omega)
        rw [HSV.out] at hrun
        simp only at hrun
        refine hrun.mono ?_
        rintro e w8 ⟨Aa, ca, rfl, n1, n2, n3, n4⟩
        rw [HMa.out] at n1 ⊢
        have HOa := Lib.hid n3
        have HP := Lib.hid (HP7.out.non n4)
        have HQ := Lib.hid (HQ7.out.non n4)
        have HO := Lib.hid (HO7.out.non n4)
        have HG := Lib.hid (HG7.out.then_non n4)
        clear n3 n4 hrun HP7 HQ7 HO7 HG7 HR7
        go_wp2_with (first
          | (refine sel none (.store _ (.tmp 14) (.tmp 165)) ?_; refine Vm_stop ?_))
        refine HoleV.mk ?_
        refine wpList_store_rowA rfl 26 (.tmp 14) (.tmp 165) rfl w8.heap.size (partC qa (.slice Aa p.mem.length ca)) rfl rfl 26 zeroPart (heap_alloc_new w8 _) (by rw [partC_size hqa8]; exact info_part) (by rw [partC_size hqa8]; rfl) (partC_one _ _ rfl) ?_
        intro w9 hgW hbW
        have hgn : Chg Non w8 w9 := ((Chg.refl Non w8).alloc (.cells zeroPart 26)).then_new hgW (fun x e => by omega)
        have HP_a : Hid (PartB w9 w8.heap.size qa (.slice Aa p.mem.length ca)) := Lib.hid ⟨hbW, hqa8⟩
        have HG := Lib.hid (HG.out.then_non hgn)
        have HP := Lib.hid (HP.out.non hgn)
        have HQ := Lib.hid (HQ.out.non hgn)
        have HO := Lib.hid (HO.out.non hgn)
        have HOa := Lib.hid (HOa.out.non hgn)
        clear hgW hbW hgn
        obtain ⟨ba, hba⟩ : ∃ b, w8.heap.size = b := ⟨_, rfl⟩
        rw [hba] at HP_a ⊢
        clear hba
        have hba9 : ba < w9.heap.size := HP_a.out.lt
        have hw99 := HG.out.size
        obtain ⟨bA, oA, rfl, hbA, _⟩ := HOa.out.rd.at_ (by rw [HMa.out]; omega)
        go_wp2_with (first
          | (refine sel (some 169) (.load _ (.tmp 13)) ?_; refine Vm_stop ?_))
        refine HoleV.mk ?_
        refine wpList_load_row rfl 26 (.tmp 13) rfl bq rfl 26 _ (0, 0) _ HQ.out.out Tryz.underlying26 rfl (by rw [partC_size HQ.out.len]; exact info_part) ?_
        go_wp2_with fail
        have hrun := Step_ok (p.other id2 k x) (some ⟨b5, o5, none⟩) c5 w9 HBo.out HO.out.rd (by rw [HMo.out]; have := HLn.out; omega)
        rw [HSW.out, HMo.out] at hrun
        simp only at hrun
        refine hrun.mono ?_
        rintro e w10 ⟨Ab, cb, rfl, n1b, n2b, n3, n4⟩
        rw [HMb.out] at n1b ⊢
        obtain ⟨bB, oB, rfl, hbB, _⟩ := n3.rd.at_ (by rw [HMb.out]; omega)
        have hbB9 : w9.heap.size ≤ bB := n3.ge (by intro e; have h := HMb.out; rw [e] at h; simp at h; omega)
        have HOb2 := Lib.hid n3
        have HP := Lib.hid (HP.out.non n4)
        have HP_a := Lib.hid (HP_a.out.non n4)
        have HOa := Lib.hid (HOa.out.non n4)
        have HG := Lib.hid (HG.out.then_non n4)
        have h910 := n4.size
        have hw9 := HG.out.size
        clear n3 n4 hrun HQ HO
        go_wp2_with (first
          | (refine sel none (.store _ (.tmp 17) (.tmp 171)) ?_; refine Vm_stop ?_))
        refine HoleV.mk ?_
        refine wpList_store_rowA rfl 26 (.tmp 17) (.tmp 171) rfl w10.heap.size (partC qb (.slice (some ⟨bB, oB, none⟩) p.mem.length cb)) rfl rfl 26 zeroPart (heap_alloc_new w10 _) (by rw [partC_size hqb8]; exact info_part) (by rw [partC_size hqb8]; rfl) (partC_one _ _ rfl) ?_
        intro w11 hgW hbW
        have hgn : Chg Non w10 w11 := ((Chg.refl Non w10).alloc (.cells zeroPart 26)).then_new hgW (fun x e => by omega)
        have HP_b : Hid (PartB w11 w10.heap.size qb (.slice (some ⟨bB, oB, none⟩) p.mem.length cb)) := Lib.hid ⟨hbW, hqb8⟩
        have HG := Lib.hid (HG.out.then_non hgn)
        have HP := Lib.hid (HP.out.non hgn)
        have HP_a := Lib.hid (HP_a.out.non hgn)
        have HOa := Lib.hid (HOa.out.non hgn)
        have HOb2 := Lib.hid (HOb2.out.non hgn)
        clear hgW hbW hgn
        obtain ⟨bb, hbb⟩ : ∃ b, w10.heap.size = b := ⟨_, rfl⟩
        rw [hbb] at HP_b hbB h910 hw9 ⊢
        clear hbb
        have c13 := HP.out.cells.2.2.2.2.2
        have a13 := HP_a.out.cells.2.2.2.2.2
        have d13 := HP_b.out.cells.2.2.2.2.2
        have d0 := HP_b.out.cells.1
        rw [HId.out] at d0
        have lb := HP_b.out.lt
        have fb := HP_b.out.frozen 0
        have hidw := HIds.out.2
        go_wp2_with (first
          | (refine sel (some 195) (.load _ (.tmp 194)) ?_; refine Vm_stop ?_))
        refine HoleV.mk ?_
        clear c13 a13 d13 d0 lb fb hidw HP
        have hs1 := setAt w11 bb 0 (.int .i64 p.id)
        have HB1 := Lib.hid (HP_b.out.setId p.id)
        have HP_a := Lib.hid (HP_a.out.keep hs1 (show ¬ ba = bb by omega))
        have HOa := Lib.hid (HOa.out.keep hs1 (fun b o e1 e2 e3 => by injection e1 with e1; injection e1 with e1 _ _; omega))
        have HOb2 := Lib.hid (HOb2.out.keep hs1 (fun b o e1 e2 e3 => by injection e1 with e1; injection e1 with e1 _ _; omega))
        have HG := Lib.hid (HG.out.then_new hs1 (fun x e => by omega))
        clear hs1
        generalize w11.setCell ⟨bb, 0, none⟩ (.int .i64 p.id) = w12 at HB1 HP_a HOa HOb2 HG ⊢
        have d2 := HB1.out.cells.2.2.1
        simp only at d2
        have lb := HB1.out.lt
        have fb := HB1.out.frozen 2
        go_wp2_with (first
          | (refine sel (some 199) (.load _ (.tmp 198)) ?_; refine Vm_stop ?_))
        refine HoleV.mk ?_
        clear d2 lb fb
        have hs1 := setAt w12 bb 2 (.bool (!qb.keep))
        have HB2 := Lib.hid (HB1.out.setKeep (!qb.keep))
        have HP_a := Lib.hid (HP_a.out.keep hs1 (show ¬ ba = bb by omega))
        have HOa := Lib.hid (HOa.out.keep hs1 (fun b o e1 e2 e3 => by injection e1 with e1; injection e1 with e1 _ _; omega))
        have HOb2 := Lib.hid (HOb2.out.keep hs1 (fun b o e1 e2 e3 => by injection e1 with e1; injection e1 with e1 _ _; omega))
        have HG := Lib.hid (HG.out.then_new hs1 (fun x e => by omega))
        clear hs1
        generalize w12.setCell ⟨bb, 2, none⟩ (.bool (!qb.keep)) = w13 at HB2 HP_a HOa HOb2 HG ⊢
        have hkB : k < qb.mem.length := by rw [HMb.out]; exact hkN
        have d13 := HB2.out.cells.2.2.2.2.2
        have ek := u8_cell HOb2.out.rd k hkB
        obtain ⟨_, _, ee, _, hcc, hfr⟩ := HOb2.out k _ (List.getElem?_eq_getElem hkB)
        injection ee with ee
        injection ee with ee1 ee2 _
        subst ee1 ee2
        have lb5 := lt_of_cell hcc
        have hms := modify_set qb.mem k x
        have HO7 := Lib.hid (HOb2.out.setByte k hkB (qb.mem.getD k 0 ^^^ x))
        rw [← hms, show qb.mem.modify k (· ^^^ x) = qa.mem from congrArg Pt.mem HBl.out] at HO7
        obtain ⟨yk2, hyk⟩ : ∃ y, qb.mem.getD k 0 = y := ⟨_, rfl⟩
        rw [hyk] at ek HO7
        have hxor := xor_u8 yk2 x
        obtain ⟨zk2, hzk⟩ : ∃ z, yk2 ^^^ x = z := ⟨_, rfl⟩
        rw [hzk] at hxor HO7
        have hs1 : Chg (fun b => b = bB) w13 (w13.setCell ⟨bB, oB + k, none⟩ (.int .u8 (zk2.toNat : Nat))) := (Chg.refl (fun b => b = bB) _).setCell (.inl rfl) _
        have HB3 := Lib.hid (HB2.out.keep hs1 (show ¬ bb = bB by omega))
        have HA3 := Lib.hid (HP_a.out.keep hs1 (show ¬ ba = bB by omega))
        have HOa3 := Lib.hid (HOa.out.keep hs1 (fun b o e1 e2 e3 => by injection e1 with e1; injection e1 with e1 _ _; omega))
        have HG3 := Lib.hid (HG.out.then_new hs1 (fun x e => by omega))
        have hki : (k : Int) < (p.mem.length : Int) := by omega
        clear hs1 hyk hzk hcc hms
        go_wp2_with (first
          | (refine sel (some 206) (.load _ (.tmp 14)) ?_; refine Vm_stop ?_))
        refine HoleV.mk ?_
        generalize w13.setCell ⟨bB, oB + k, none⟩ (.int .u8 (zk2.toNat : Nat)) = w14 at HB3 HA3 HO7 HOa3 HG3 ⊢
        clear ek hfr hxor d13 lb5
        have HB4 : Hid (PartB w14 bb qa (.slice (some ⟨bB, oB, none⟩) p.mem.length cb)) := Lib.hid ⟨by have h := HB3.out.out; rw [← HBl.out]; exact h, hqa8⟩
        have HG := HG3
        refine wpList_loadW (some 206) 26 (.tmp 14) ba 0 _ _ rfl rfl (by kernel_rfl) rfl (row_range HA3.out.out) Tryz.underlying26 rfl (by rw [partC_size HA3.out.len]; exact info_part) ?_
        go_wp2_with (first
          | (refine sel (some 207) (.load _ (.tmp 17)) ?_; refine Vm_stop ?_))
        refine HoleV.mk ?_
        refine wpList_loadW (some 207) 26 (.tmp 17) bb 0 _ _ rfl rfl (by kernel_rfl) rfl (row_range HB4.out.out) Tryz.underlying26 rfl (by rw [partC_size HB4.out.len]; exact info_part) ?_
        go_wp2_with fail
        have hsm := Same_eq qa (some ⟨bA, oA, none⟩) (some ⟨bB, oB, none⟩) qa.mem ca cb w14 HSb.out HOa3.out.rd HO7.out.rd
        rw [HMa.out] at hsm
        refine hsm.mono ?_
        rintro e w15 ⟨rfl, g5⟩
        have HG := Lib.hid (HG.out.then_non g5)
        clear g5 hsm
        go_wp2_with fail
        refine (vawake_ok _ (HE.out.non HG.out)).mono ?_
        rintro e wz ⟨rfl, gz⟩
        have HG := Lib.hid (HG.out.then_non gz)
        clear gz
        go_wp2_with fail
        go_ret
        exact ⟨rfl, HG.out⟩
      · have hmv2 : (op = 13 ∨ op = 15 ∨ op = 14 ∨ op = 16) ∧ tn ≤ k ∧ k < tn + 4 := by
          by_cases hme : memB op = true
          · refine ⟨by simp [memB] at hme; omega, ?_⟩; exact Classical.byContradiction fun h => hmv (fun _ => by omega)
          · exact absurd (fun h => absurd h hme) hmv
        clear hmv
        obtain ⟨ho, hk1, hk2⟩ := hmv2
        rcases ho with ho | ho | ho | ho
        · rw [decide_eq_true (show op = 13 by omega)] at q1
          have t6 : decide ((k : Int) ≥ (tn : Int)) = true := by rw [decide_eq_true_eq]; omega
          have t7 : decide ((k : Int) < (tn : Int) + 4) = true := by rw [decide_eq_true_eq]; omega
          go_wp2_with fail
          refine (vawake_ok _ (HE.out.non HG.out)).mono ?_
          rintro e wz ⟨rfl, gz⟩
          have HG := Lib.hid (HG.out.then_non gz)
          clear gz
          go_wp2_with fail
          go_ret
          exact ⟨rfl, HG.out⟩
        · rw [decide_eq_false (show ¬ op = 13 by omega)] at q1
          rw [decide_eq_true (show op = 15 by omega)] at q2
          have t6 : decide ((k : Int) ≥ (tn : Int)) = true := by rw [decide_eq_true_eq]; omega
          have t7 : decide ((k : Int) < (tn : Int) + 4) = true := by rw [decide_eq_true_eq]; omega
          go_wp2_with fail
          refine (vawake_ok _ (HE.out.non HG.out)).mono ?_
          rintro e wz ⟨rfl, gz⟩
          have HG := Lib.hid (HG.out.then_non gz)
          clear gz
          go_wp2_with fail
          go_ret
          exact ⟨rfl, HG.out⟩
        · rw [decide_eq_false (show ¬ op = 13 by omega)] at q1
          rw [decide_eq_false (show ¬ op = 15 by omega)] at q2
          rw [decide_eq_true (show op = 14 by omega)] at q3
          have t6 : decide ((k : Int) ≥ (tn : Int)) = true := by rw [decide_eq_true_eq]; omega
          have t7 : decide ((k : Int) < (tn : Int) + 4) = true := by rw [decide_eq_true_eq]; omega
          go_wp2_with fail
          refine (vawake_ok _ (HE.out.non HG.out)).mono ?_
          rintro e wz ⟨rfl, gz⟩
          have HG := Lib.hid (HG.out.then_non gz)
          clear gz
          go_wp2_with fail
          go_ret
          exact ⟨rfl, HG.out⟩
        · rw [decide_eq_false (show ¬ op = 13 by omega)] at q1
          rw [decide_eq_false (show ¬ op = 15 by omega)] at q2
          rw [decide_eq_false (show ¬ op = 14 by omega)] at q3
          rw [decide_eq_true (show op = 16 by omega)] at q4
          have t6 : decide ((k : Int) ≥ (tn : Int)) = true := by rw [decide_eq_true_eq]; omega
          have t7 : decide ((k : Int) < (tn : Int) + 4) = true := by rw [decide_eq_true_eq]; omega
          go_wp2_with fail
          refine (vawake_ok _ (HE.out.non HG.out)).mono ?_
          rintro e wz ⟨rfl, gz⟩
          have HG := Lib.hid (HG.out.then_non gz)
          clear gz
          go_wp2_with fail
          go_ret
          exact ⟨rfl, HG.out⟩
  · rcases Nat.lt_or_ge p.mem.length (p.pc + 4) with h5 | h5
    · have t5 : decide ((p.pc : Int) + 4 > (p.mem.length : Int)) = true := by rw [decide_eq_true_eq]; omega
      clear hsv
      rcases Nat.lt_or_ge k p.pc with h3 | h3
      · have t3 : decide ((k : Int) ≥ (p.pc : Int)) = false := by rw [decide_eq_false_iff_not]; omega
        go_wp2_with fail
        refine (vawake_ok _ (HE.out.non HG.out)).mono ?_
        rintro e wz ⟨rfl, gz⟩
        have HG := Lib.hid (HG.out.then_non gz)
        clear gz
        go_wp2_with fail
        go_ret
        exact ⟨rfl, HG.out⟩
      · have t3 : decide ((k : Int) ≥ (p.pc : Int)) = true := by rw [decide_eq_true_eq]; omega
        rcases Nat.lt_or_ge k (p.pc + 4) with h4 | h4
        · have t4 : decide ((k : Int) < (p.pc : Int) + 4) = true := by rw [decide_eq_true_eq]; omega
          go_wp2_with fail
          refine (vawake_ok _ (HE.out.non HG.out)).mono ?_
          rintro e wz ⟨rfl, gz⟩
          have HG := Lib.hid (HG.out.then_non gz)
          clear gz
          go_wp2_with fail
          go_ret
          exact ⟨rfl, HG.out⟩
        · exact absurd hkN (by omega)
    · have t5 : p.pc ≤ k ∧ k < p.pc + 4 := ⟨Classical.byContradiction fun h => hsv ⟨.inl (by omega), h5⟩, Classical.byContradiction fun h => hsv ⟨.inr (by omega), h5⟩⟩
      have t3 : decide ((k : Int) ≥ (p.pc : Int)) = true := by rw [decide_eq_true_eq]; omega
      have t4 : decide ((k : Int) < (p.pc : Int) + 4) = true := by rw [decide_eq_true_eq]; omega
      obtain ⟨t5a, t5b⟩ := t5
      clear hsv
      go_wp2_with fail
      refine (vawake_ok _ (HE.out.non HG.out)).mono ?_
      rintro e wz ⟨rfl, gz⟩
      have HG := Lib.hid (HG.out.then_non gz)
      clear gz
      go_wp2_with fail
      go_ret
      exact ⟨rfl, HG.out⟩
theorem VmBlind_ok (p : Pt) (A : Option Addr) (c : Nat) (a : Int) (x : UInt8) (w : World) (hE : Env w) (hb : p.Bd) (hr : Rd w A p.mem) :
    Calls Tryz.prog 5 #[.agg (partC p (.slice A p.mem.length c)), .int .i64 a, .int .u8 x.toNat] w fun e w' => e = .returned (.bool true) ∧ Chg Non w w' := by
  by_cases h0 : p.mem.length = 0
  · exact blind_early p A c a _ w hE hb.r8 (.inl h0)
  by_cases h1 : 512 < p.mem.length
  · exact blind_early p A c a _ w hE hb.r8 (.inr (.inl h1))
  by_cases h2 : p.st = 0
  · by_cases h3 : 512 < p.pc
    · exact blind_early p A c a _ w hE hb.r8 (.inr (.inr (.inr h3)))
    · exact blind_walk p A c a x w hE hb hr h0 (by omega) h2 (by omega)
  · exact blind_early p A c a _ w hE hb.r8 (.inr (.inr (.inl h2)))
end Go.Proofs.YtpcmnphohneddaaGreatDoor
