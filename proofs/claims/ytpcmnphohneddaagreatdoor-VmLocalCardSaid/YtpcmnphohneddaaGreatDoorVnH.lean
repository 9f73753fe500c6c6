/- Walk of citadellaw20.VmLocal. (Written by wip/gen_vnh.py.) -/
import Derived.Test.YtpcmnphohneddaaGreatDoorVq6
import Derived.Test.YtpcmnphohneddaaGreatDoorVnG
namespace Go.Proofs.YtpcmnphohneddaaGreatDoor
open Go.RowKit
set_option linter.unusedVariables false

theorem dR_le (p q : Pt) : ∀ k, dR p q k ≤ k := by
  intro k
  induction k with
  | zero => exact Nat.le_refl _
  | succ k ih => unfold dR; split <;> omega
theorem dM_le (l m : List UInt8) : ∀ k, (dM l m k).2.2 ≤ k ∧ -1 ≤ (dM l m k).1 ∧ (dM l m k).1 ≤ k ∧ -1 ≤ (dM l m k).2.1 ∧ (dM l m k).2.1 ≤ k := by
  intro k
  induction k with
  | zero => exact ⟨Nat.le_refl _, by show (-1 : Int) ≤ -1; omega, by show (-1 : Int) ≤ 0; omega, by show (-1 : Int) ≤ -1; omega, by show (-1 : Int) ≤ 0; omega⟩
  | succ k ih =>
    unfold dM
    split
    · omega
    · simp only
      split <;> omega
theorem u8_neq (x y : UInt8) : ((x.toNat : Int) != (y.toNat : Int)) = !decide (x = y) := by
  rw [Bool.eq_iff_iff]
  simp
  constructor
  · intro h e; exact h (by rw [e])
  · intro h e; exact h (UInt8.toNat_inj.1 (by omega))
set_option maxRecDepth 100000 in
set_option maxHeartbeats 8000000 in
theorem local_long (p : Pt) (A : Option Addr) (c : Nat) (w : World) (hE : Env w) (h8 : p.r.length = 8) (hl : 512 < p.mem.length) :
    Calls Tryz.prog 4 #[.agg (partC p (.slice A p.mem.length c))] w fun e w' => e = .returned (.bool true) ∧ Chg Non w w' := by
  have HE := Lib.hid hE
  have hb1 : decide ((p.mem.length : Int) > 512) = true := by simp; omega
  have hp : PartB (w.alloc (.cells (partC p (.slice A p.mem.length c)) 26)) w.heap.size p (.slice A p.mem.length c) := ⟨heap_alloc_new _ _, h8⟩
  have c13 := hp.cells.2.2.2.2.2
  obtain ⟨C, hC⟩ : ∃ C, partC p (.slice A p.mem.length c) = C := ⟨_, rfl⟩
  have z1 : C.size = 14 := by rw [← hC]; exact partC_size h8 _
  rw [hC] at c13 ⊢
  clear hC hp hE
  go_enter Tryz.func4, Tryz.ntmps4
  go_wp2_with fail
  refine (vawake_ok _ (HE.out.non ((Chg.refl Non w).alloc _))).mono ?_
  rintro e w1 ⟨rfl, hg⟩
  have HG := Lib.hid (((Chg.refl Non w).alloc _).then_non hg)
  clear hg
  go_wp2_with fail
  go_ret
  exact ⟨rfl, HG.out⟩
set_option maxRecDepth 100000 in
set_option maxHeartbeats 16000000 in
theorem local_walk (p : Pt) (A : Option Addr) (c : Nat) (w : World) (hE : Env w) (hb : p.Bd) (hr : Rd w A p.mem) (hl : p.mem.length ≤ 512) :
    Calls Tryz.prog 4 #[.agg (partC p (.slice A p.mem.length c))] w fun e w' => e = .returned (.bool true) ∧ Chg Non w w' := by
  have HE := Lib.hid hE
  have HBd := Lib.hid hb
  have h8 := hb.r8
  have hb1 : decide ((p.mem.length : Int) > 512) = false := by simp; omega
  have hp : PartB (w.alloc (.cells (partC p (.slice A p.mem.length c)) 26)) w.heap.size p (.slice A p.mem.length c) := ⟨heap_alloc_new _ _, h8⟩
  obtain ⟨l1, l2, l3, l4, l5, l6, l7, l8⟩ := local_ok p
  have her := step_err p
  have hsm := step_mem p
  have hsb := (step_bd hb).1
  obtain ⟨⟨q, k, er⟩, hsv⟩ : ∃ r, stepV p = r := ⟨_, rfl⟩
  have hv1 : (stepV p).1 = q := by rw [hsv]
  have hv2 : (stepV p).2.1 = k := by rw [hsv]
  have hv3 : (stepV p).2.2 = er := by rw [hsv]
  have hv3i : ((stepV p).2.2 : Int) = er := by rw [hsv]
  rw [hsv] at l1 l2 l3 l4 l5 l6 l7 l8 her hsm hsb
  simp only at l1 l2 l3 l4 l5 l6 l7 l8 her hsm hsb
  have hq8 := hsb.r8
  have HSb := Lib.hid hsb
  have HV := Lib.hid (And.intro hv1 (And.intro hv2 hv3i))
  have HL := Lib.hid (And.intro l4 (And.intro l5 (And.intro l6 (And.intro l7 l8))))
  have HI := Lib.hid (And.intro l1 (And.intro l2 (And.intro l3 hsm)))
  have HEr := Lib.hid her
  have HP := Lib.hid hp
  have HR := Lib.hid (hr.non ((Chg.refl Non w).alloc (.cells (partC p (.slice A p.mem.length c)) 26)))
  have c13 := hp.cells.2.2.2.2.2
  obtain ⟨C, hC⟩ : ∃ C, partC p (.slice A p.mem.length c) = C := ⟨_, rfl⟩
  have z1 : C.size = 14 := by rw [← hC]; exact partC_size h8 _
  have HC := Lib.hid hC
  rw [hC] at c13 ⊢
  have HG : Hid (Chg Non w (w.alloc (.cells C 26))) := Lib.hid ((Chg.refl Non w).alloc _)
  rw [hC] at HR HP
  clear hC hp hE hb hr l1 l2 l3 l4 l5 l6 l7 l8 her hsm hsb hsv hv1 hv2 hv3 hv3i
  go_enter Tryz.func4, Tryz.ntmps4
  go_wp2_with (first
    | (refine sel (some 19) (.load _ (.tmp 1)) ?_; refine Vm_stop ?_))
  refine HoleV.mk ?_
  refine wpList_load_row rfl 26 (.tmp 1) rfl w.heap.size rfl 26 C (0, 0) _ (heap_alloc_new _ _) Tryz.underlying26 rfl (by rw [z1]; exact info_part) ?_
  go_wp2_with fail
  have hrun := Step_v p q k er p.mem.length A c _ HV.out.1 HV.out.2.1 HV.out.2.2 rfl HBd.out HR.out (by omega)
  rw [HC.out] at hrun
  refine hrun.mono ?_
  rintro e w1 ⟨A1, c1, rfl, m1, g1⟩
  have HM1 := Lib.hid m1
  have HG := Lib.hid (HG.out.then_non g1)
  have HP := Lib.hid (HP.out.non g1)
  have HR := Lib.hid (HR.out.non g1)
  have hne := HP.out.lt
  clear m1 g1 hrun c13
  go_wp2_with (first
    | (refine sel none (.store _ (.tmp 3) (.tmp 21)) ?_; refine Vm_stop ?_))
  refine HoleV.mk ?_
  refine wpList_store_rowA rfl 26 (.tmp 3) (.tmp 21) rfl w1.heap.size (partC q (.slice A1 p.mem.length c1)) rfl rfl 26 zeroPart (heap_alloc_new w1 _) (by rw [partC_size hq8]; exact info_part) (by rw [partC_size hq8]; rfl) (partC_one _ _ rfl) ?_
  intro w2 hgW hbW
  have hgn : Chg Non w1 w2 := ((Chg.refl Non w1).alloc (.cells zeroPart 26)).then_new hgW (fun x e => by omega)
  have HP_q : Hid (PartB w2 w1.heap.size q (.slice A1 p.mem.length c1)) := Lib.hid ⟨hbW, hq8⟩
  have HG := Lib.hid (HG.out.then_non hgn)
  have HRq := Lib.hid (HM1.out.non hgn)
  have HP := Lib.hid (HP.out.non hgn)
  have HR := Lib.hid (HR.out.non hgn)
  clear hgW hbW hgn
  obtain ⟨bq, hbq⟩ : ∃ b, w1.heap.size = b := ⟨_, rfl⟩
  rw [hbq] at HP_q hne ⊢
  clear hbq
  obtain ⟨a0, a1, a2, a3, a4, a5⟩ := HP.out.cells
  obtain ⟨d0, d1, d2, d3, d4, d5⟩ := HP_q.out.cells
  rw [HI.out.1] at d0
  rw [HI.out.2.1] at d1
  rw [HI.out.2.2.1] at d2
  have hsame : (!(((er : Int) == 0) == ((p.st : Int) == 0))) = false := by
    have h := HEr.out
    by_cases hs : p.st = 0
    · rw [if_pos hs] at h
      rw [h, hs]; rfl
    · rw [if_neg hs] at h
      rw [h, show ((p.st : Int) == 0) = false by rw [beq_eq_false_iff_ne]; omega]
      rfl
  clear a3 d3 d4
  go_wp2_with fail
  clear a0 a1 a2 a4 a5 d0 d1 d2 d5 hsame
  go_loopw [6, 7] (fun r i wr => ∃ j : Nat, j ≤ 8 ∧ i = .int .i64 j ∧ r = .int .i64 (dR p q j : Nat) ∧ Chg Non w2 wr) (fun _ i _ => 9 - (intOf i).toNat)
  case atStart => exact ⟨0, by omega, rfl, rfl, Chg.refl _ _⟩
  case round =>
    rename World => wi
    obtain ⟨j, hj, rfl, rfl, hgj⟩ := hrel
    have HGj := Lib.hid hgj
    rcases Nat.lt_or_ge j 8 with hlt | hge
    · have hjb : decide ((j : Int) < 8) = true := by simp; omega
      have hji : (j : Int) < 8 := by omega
      have e1 := (HP.out.non hgj).reg j hlt
      have e2 := (HP_q.out.non hgj).reg j hlt
      obtain ⟨D, hD⟩ : ∃ D, dR p q j = D := ⟨_, rfl⟩
      have hD8 : D ≤ 8 := by rw [← hD]; exact Nat.le_trans (dR_le p q j) hj
      obtain ⟨x, hx⟩ : ∃ x, p.g j = x := ⟨_, rfl⟩
      obtain ⟨y, hy⟩ : ∃ y, q.g j = y := ⟨_, rfl⟩
      rw [hx] at e1
      rw [hy] at e2
      rw [hD]
      have HD := Lib.hid (And.intro hD (And.intro hx hy))
      clear hgj hD hx hy
      go_wp2_with fail
      refine wp_region_held_drew (S := fun W => Chg Non wi W) (by kernel_rfl) ((Chg.refl Non _).drew) (fun hHeld => ?_)
      clear hHeld
      refine h_pure 0 (some 64) (.int .i64 j) rfl (by kernel_rfl) (by kernel_rfl) (by kernel_rfl) (by kernel_rfl) (fun _ _ _ h => h) (by kernel_rfl) (fun W hW => by go_simp) ((Chg.refl Non _).drew) ?_
      simp only [Act.put, List.setIfInBounds_toArray, List.set_cons_zero, List.set_cons_succ]
      refine h_pure 1 (some 65) (.pointer (some ⟨w.heap.size, 3, none⟩)) rfl (by kernel_rfl) (by kernel_rfl) (by kernel_rfl) (by kernel_rfl) (fun _ _ _ h => h) (by kernel_rfl) (fun W hW => by go_simp) ((Chg.refl Non _).drew) ?_
      simp only [Act.put, List.setIfInBounds_toArray, List.set_cons_zero, List.set_cons_succ]
      refine h_pure 2 (some 66) (.pointer (some ⟨w.heap.size, 3 + j, none⟩)) rfl (by kernel_rfl) (by kernel_rfl) (by kernel_rfl) (by kernel_rfl) (fun _ _ _ h => h) (by kernel_rfl) (fun W hW => by go_simp) ((Chg.refl Non _).drew) ?_
      simp only [Act.put, List.setIfInBounds_toArray, List.set_cons_zero, List.set_cons_succ]
      refine h_pure 3 (some 67) (.int .u32 x) rfl (by kernel_rfl) (by kernel_rfl) (by kernel_rfl) (by kernel_rfl) (fun _ _ _ h => h) (by kernel_rfl) (fun W hW => by have hq := hW.cell_some e1 (fun e => e); go_simp) ((Chg.refl Non _).drew) ?_
      simp only [Act.put, List.setIfInBounds_toArray, List.set_cons_zero, List.set_cons_succ]
      refine h_pure 4 (some 68) (.int .i64 j) rfl (by kernel_rfl) (by kernel_rfl) (by kernel_rfl) (by kernel_rfl) (fun _ _ _ h => h) (by kernel_rfl) (fun W hW => by go_simp) ((Chg.refl Non _).drew) ?_
      simp only [Act.put, List.setIfInBounds_toArray, List.set_cons_zero, List.set_cons_succ]
      refine h_pure 5 (some 69) (.pointer (some ⟨bq, 3, none⟩)) rfl (by kernel_rfl) (by kernel_rfl) (by kernel_rfl) (by kernel_rfl) (fun _ _ _ h => h) (by kernel_rfl) (fun W hW => by go_simp) ((Chg.refl Non _).drew) ?_
      simp only [Act.put, List.setIfInBounds_toArray, List.set_cons_zero, List.set_cons_succ]
      refine h_pure 6 (some 70) (.pointer (some ⟨bq, 3 + j, none⟩)) rfl (by kernel_rfl) (by kernel_rfl) (by kernel_rfl) (by kernel_rfl) (fun _ _ _ h => h) (by kernel_rfl) (fun W hW => by go_simp) ((Chg.refl Non _).drew) ?_
      simp only [Act.put, List.setIfInBounds_toArray, List.set_cons_zero, List.set_cons_succ]
      refine h_pure 7 (some 71) (.int .u32 y) rfl (by kernel_rfl) (by kernel_rfl) (by kernel_rfl) (by kernel_rfl) (fun _ _ _ h => h) (by kernel_rfl) (fun W hW => by have hq := hW.cell_some e2 (fun e => e); go_simp) ((Chg.refl Non _).drew) ?_
      simp only [Act.put, List.setIfInBounds_toArray, List.set_cons_zero, List.set_cons_succ]
      refine h_pure 8 (some 72) (.bool ((x : Int) != (y : Int))) rfl (by kernel_rfl) (by kernel_rfl) (by kernel_rfl) (by kernel_rfl) (fun _ _ _ h => h) (by kernel_rfl) (fun W hW => by go_simp) ((Chg.refl Non _).drew) ?_
      simp only [Act.put, List.setIfInBounds_toArray, List.set_cons_zero, List.set_cons_succ]
      refine wpAnyH_done (by kernel_rfl) ?_ _
      by_cases hxy : x = y
      · have hb : ((x : Int) != (y : Int)) = false := by rw [hxy]; simp
        rw [hb]
        have HXY := Lib.hid hxy
        clear hb hxy
        go_wp2_with fail
        refine ⟨⟨j + 1, by omega, by go_num, ?_, HGj.out.drew⟩, by simp [intOf]; omega⟩
        rw [dR, if_pos (by rw [HD.out.2.1, HD.out.2.2, HXY.out]), HD.out.1]
      · have hb : ((x : Int) != (y : Int)) = true := by rw [bne_iff_ne]; omega
        rw [hb]
        have HXY := Lib.hid hxy
        clear hb hxy
        go_wp2_with fail
        refine ⟨⟨j + 1, by omega, by go_num, ?_, HGj.out.drew⟩, by simp [intOf]; omega⟩
        rw [dR, if_neg (by rw [HD.out.2.1, HD.out.2.2]; exact HXY.out), HD.out.1]
        go_num
    · obtain rfl : j = 8 := by omega
      obtain ⟨D, hD⟩ : ∃ D, dR p q 8 = D := ⟨_, rfl⟩
      rw [hD]
      have HD := Lib.hid hD
      clear hgj hD
      have HP := Lib.hid (HP.out.non HGj.out)
      have HP_q := Lib.hid (HP_q.out.non HGj.out)
      have HR := Lib.hid (HR.out.non HGj.out)
      have HRq := Lib.hid (HRq.out.non HGj.out)
      have HG := Lib.hid (HG.out.then_non HGj.out)
      go_wp2_with fail
      go_loopw [8, 9, 10, 11] (fun f l n i wr => ∃ j : Nat, j ≤ p.mem.length ∧ i = .int .i64 j ∧ f = .int .i64 (dM p.mem q.mem j).1 ∧ l = .int .i64 (dM p.mem q.mem j).2.1 ∧ n = .int .i64 ((dM p.mem q.mem j).2.2 : Nat) ∧ Chg Non wi wr) (fun _ _ _ i _ => p.mem.length + 1 - (intOf i).toNat)
      case atStart => exact ⟨0, Nat.zero_le _, rfl, rfl, rfl, rfl, Chg.refl _ _⟩
      case round =>
        rename World => wj
        obtain ⟨j, hj, rfl, rfl, rfl, rfl, hgk⟩ := hrel
        have HGk := Lib.hid hgk
        have HPj := Lib.hid (HP.out.non hgk)
        have HQj := Lib.hid (HP_q.out.non hgk)
        have c13 := HPj.out.cells.2.2.2.2.2
        have hdm := dM_le p.mem q.mem j
        obtain ⟨⟨F, L, n⟩, hM⟩ : ∃ r, dM p.mem q.mem j = r := ⟨_, rfl⟩
        rw [hM] at hdm ⊢
        simp only at hdm ⊢
        have HM := Lib.hid hM
        clear hM hgk
        rcases Nat.lt_or_ge j p.mem.length with hlt | hge
        · have hjb : decide ((j : Int) < (p.mem.length : Int)) = true := by simp; omega
          have hjl : (j : Int) < (p.mem.length : Int) := by omega
          obtain ⟨b0, o0, hA0, _, _⟩ := HR.out.at_ (by omega)
          subst hA0
          obtain ⟨b1, o1, hA1, _, _⟩ := HRq.out.at_ (by rw [HI.out.2.2.2]; omega)
          subst hA1
          have e1 := u8_cell (HR.out.non HGk.out) j hlt
          have e2 := u8_cell (HRq.out.non HGk.out) j (by rw [HI.out.2.2.2]; exact hlt)
          have d13 := HQj.out.cells.2.2.2.2.2
          have hxy0 : p.mem[j]? = q.mem[j]? ↔ p.mem.getD j 0 = q.mem.getD j 0 := by
            have hq := HI.out.2.2.2
            rw [List.getD_eq_getElem?_getD, List.getD_eq_getElem?_getD, List.getElem?_eq_getElem hlt, List.getElem?_eq_getElem (by omega)]
            simp
          obtain ⟨x, hx⟩ : ∃ x, p.mem.getD j 0 = x := ⟨_, rfl⟩
          obtain ⟨y, hy⟩ : ∃ y, q.mem.getD j 0 = y := ⟨_, rfl⟩
          rw [hx] at e1 hxy0
          rw [hy] at e2 hxy0
          have HXY0 := Lib.hid hxy0
          clear hx hy hxy0
          go_wp2_with fail
          refine wp_region_held_drew (S := fun W => Chg Non wj W) (by kernel_rfl) ((Chg.refl Non _).drew) (fun hHeld => ?_)
          clear hHeld
          refine h_pure 0 (some 82) (.pointer (some ⟨w.heap.size, 13, none⟩)) rfl (by kernel_rfl) (by kernel_rfl) (by kernel_rfl) (by kernel_rfl) (fun _ _ _ h => h) (by kernel_rfl) (fun W hW => by go_simp) ((Chg.refl Non _).drew) ?_
          simp only [Act.put, List.setIfInBounds_toArray, List.set_cons_zero, List.set_cons_succ]
          refine h_pure 1 (some 83) (.slice (some ⟨b0, o0, none⟩) p.mem.length c) rfl (by kernel_rfl) (by kernel_rfl) (by kernel_rfl) (by kernel_rfl) (fun _ _ _ h => h) (by kernel_rfl) (fun W hW => by have hq := hW.cell_some c13 (fun e => e); go_simp) ((Chg.refl Non _).drew) ?_
          simp only [Act.put, List.setIfInBounds_toArray, List.set_cons_zero, List.set_cons_succ]
          refine h_pure 2 (some 84) (.int .i64 j) rfl (by kernel_rfl) (by kernel_rfl) (by kernel_rfl) (by kernel_rfl) (fun _ _ _ h => h) (by kernel_rfl) (fun W hW => by go_simp) ((Chg.refl Non _).drew) ?_
          simp only [Act.put, List.setIfInBounds_toArray, List.set_cons_zero, List.set_cons_succ]
          refine h_pure 3 (some 85) (.pointer (some ⟨b0, o0 + j, none⟩)) rfl (by kernel_rfl) (by kernel_rfl) (by kernel_rfl) (by kernel_rfl) (fun _ _ _ h => h) (by kernel_rfl) (fun W hW => by go_simp) ((Chg.refl Non _).drew) ?_
          simp only [Act.put, List.setIfInBounds_toArray, List.set_cons_zero, List.set_cons_succ]
          refine h_pure 4 (some 86) (.int .u8 x.toNat) rfl (by kernel_rfl) (by kernel_rfl) (by kernel_rfl) (by kernel_rfl) (fun _ _ _ h => h) (by kernel_rfl) (fun W hW => by have hq := hW.cell_some e1 (fun e => e); go_simp) ((Chg.refl Non _).drew) ?_
          simp only [Act.put, List.setIfInBounds_toArray, List.set_cons_zero, List.set_cons_succ]
          refine h_pure 5 (some 87) (.pointer (some ⟨bq, 13, none⟩)) rfl (by kernel_rfl) (by kernel_rfl) (by kernel_rfl) (by kernel_rfl) (fun _ _ _ h => h) (by kernel_rfl) (fun W hW => by go_simp) ((Chg.refl Non _).drew) ?_
          simp only [Act.put, List.setIfInBounds_toArray, List.set_cons_zero, List.set_cons_succ]
          refine h_pure 6 (some 88) (.slice (some ⟨b1, o1, none⟩) p.mem.length c1) rfl (by kernel_rfl) (by kernel_rfl) (by kernel_rfl) (by kernel_rfl) (fun _ _ _ h => h) (by kernel_rfl) (fun W hW => by have hq := hW.cell_some d13 (fun e => e); go_simp) ((Chg.refl Non _).drew) ?_
          simp only [Act.put, List.setIfInBounds_toArray, List.set_cons_zero, List.set_cons_succ]
          refine h_pure 7 (some 89) (.int .i64 j) rfl (by kernel_rfl) (by kernel_rfl) (by kernel_rfl) (by kernel_rfl) (fun _ _ _ h => h) (by kernel_rfl) (fun W hW => by go_simp) ((Chg.refl Non _).drew) ?_
          simp only [Act.put, List.setIfInBounds_toArray, List.set_cons_zero, List.set_cons_succ]
          refine h_pure 8 (some 90) (.pointer (some ⟨b1, o1 + j, none⟩)) rfl (by kernel_rfl) (by kernel_rfl) (by kernel_rfl) (by kernel_rfl) (fun _ _ _ h => h) (by kernel_rfl) (fun W hW => by go_simp) ((Chg.refl Non _).drew) ?_
          simp only [Act.put, List.setIfInBounds_toArray, List.set_cons_zero, List.set_cons_succ]
          refine h_pure 9 (some 91) (.int .u8 y.toNat) rfl (by kernel_rfl) (by kernel_rfl) (by kernel_rfl) (by kernel_rfl) (fun _ _ _ h => h) (by kernel_rfl) (fun W hW => by have hq := hW.cell_some e2 (fun e => e); go_simp) ((Chg.refl Non _).drew) ?_
          simp only [Act.put, List.setIfInBounds_toArray, List.set_cons_zero, List.set_cons_succ]
          refine h_pure 10 (some 92) (.bool ((x.toNat : Int) != (y.toNat : Int))) rfl (by kernel_rfl) (by kernel_rfl) (by kernel_rfl) (by kernel_rfl) (fun _ _ _ h => h) (by kernel_rfl) (fun W hW => by go_simp) ((Chg.refl Non _).drew) ?_
          simp only [Act.put, List.setIfInBounds_toArray, List.set_cons_zero, List.set_cons_succ]
          refine wpAnyH_done (by kernel_rfl) ?_ _
          rw [u8_neq]
          by_cases hxy : x = y
          · rw [decide_eq_true hxy]
            have HXY := Lib.hid hxy
            clear hxy
            have hst : dM p.mem q.mem (j + 1) = (F, L, n) := by rw [dM, if_pos (HXY0.out.2 HXY.out)]; exact HM.out
            have HSt := Lib.hid hst
            clear hst
            go_wp2_with fail
            exact ⟨⟨j + 1, by omega, by go_num, by rw [HSt.out], by rw [HSt.out], by rw [HSt.out], HGk.out.drew⟩, by simp [intOf]; omega⟩
          · rw [decide_eq_false hxy]
            have HXY := Lib.hid hxy
            clear hxy
            by_cases hF : F < 0
            · have hFb : decide (F < 0) = true := by simpa using hF
              have hst : dM p.mem q.mem (j + 1) = ((j : Int), (j : Int), n + 1) := by rw [dM, if_neg (fun e => HXY.out (HXY0.out.1 e)), HM.out]; simp only [hF, if_true]
              have HSt := Lib.hid hst
              clear hst
              go_wp2_with fail
              exact ⟨⟨j + 1, by omega, by go_num, by rw [HSt.out], by rw [HSt.out], by rw [HSt.out]; go_num, HGk.out.drew⟩, by simp [intOf]; omega⟩
            · have hFb : decide (F < 0) = false := by simpa using hF
              have hst : dM p.mem q.mem (j + 1) = (F, (j : Int), n + 1) := by rw [dM, if_neg (fun e => HXY.out (HXY0.out.1 e)), HM.out]; simp only [hF, if_false]
              have HSt := Lib.hid hst
              clear hst
              go_wp2_with fail
              exact ⟨⟨j + 1, by omega, by go_num, by rw [HSt.out], by rw [HSt.out], by rw [HSt.out]; go_num, HGk.out.drew⟩, by simp [intOf]; omega⟩
        · obtain rfl : j = p.mem.length := by omega
          have hL := HL.out
          rw [HM.out, HD.out] at hL
          simp only at hL
          obtain ⟨g1, g2, g3, g4, g5⟩ := hL
          have HG := Lib.hid (HG.out.then_non HGk.out)
          have a4 := HPj.out.cells.2.2.2.2.1
          have d4 := HQj.out.cells.2.2.2.2.1
          have a11 := HPj.out.cells.2.2.2.1
          have d11 := HQj.out.cells.2.2.2.1
          by_cases hfl : q.st ≠ p.st ∨ er ≠ 0
          · obtain ⟨hq, rfl⟩ := g5 hfl
            have hqm : q.mem = p.mem := by rw [hq]
            have hd1 := dR_same p q (by rw [hq]) 8
            have hd2 := dM_same p.mem q.mem hqm p.mem.length
            rw [HD.out] at hd1
            rw [HM.out] at hd2
            simp only [Prod.mk.injEq] at hd2
            obtain ⟨rfl, rfl, rfl⟩ := hd2
            subst hd1
            have HQe : Hid (({ p with st := q.st } : Pt) = q) := Lib.hid hq.symm
            have HQm := Lib.hid hqm
            clear g1 g2 g3 g4 g5 hq hqm a11 d11
            by_cases hs : q.st = p.st
            · have t1 : ((q.st : Int) != (p.st : Int)) = false := by rw [hs]; simp
              have her : er ≠ 0 := by rcases hfl with h | h; exact absurd hs h; exact h
              have t2 : ((er : Int) != 0) = true := by rw [bne_iff_ne]; omega
              clear hs hfl her
              go_wp2_with (first
                | (refine sel (some 148) (.load _ (.tmp 1)) ?_; refine Vm_stop ?_))
              refine HoleV.mk ?_
              refine wpList_load_row rfl 26 (.tmp 1) rfl w.heap.size rfl 26 _ (0, 0) _ HPj.out.out Tryz.underlying26 rfl (by rw [partC_size HPj.out.len]; exact info_part) ?_
              go_wp2_with (first
                | (refine sel none (.store _ (.tmp 12) (.tmp 148)) ?_; refine Vm_stop ?_))
              refine HoleV.mk ?_
              refine wpList_store_rowA rfl 26 (.tmp 12) (.tmp 148) rfl wj.heap.size (partC p (.slice A p.mem.length c)) rfl rfl 26 zeroPart (heap_alloc_new wj _) (by rw [partC_size h8]; exact info_part) (by rw [partC_size h8]; rfl) (partC_one _ _ rfl) ?_
              intro wk hgW hbW
              have hgn : Chg Non wj wk := ((Chg.refl Non wj).alloc (.cells zeroPart 26)).then_new hgW (fun x e => by omega)
              have HP_r : Hid (PartB wk wj.heap.size p (.slice A p.mem.length c)) := Lib.hid ⟨hbW, h8⟩
              have HG := Lib.hid (HG.out.then_non hgn)
              have HQk := Lib.hid (HQj.out.non hgn)
              have HRk := Lib.hid ((HR.out.non HGk.out).non hgn)
              have HRqk := Lib.hid ((HRq.out.non HGk.out).non hgn)
              have hqr := HQj.out.lt
              clear hgW hbW hgn a4 d4
              have a4 := HP_r.out.cells.2.2.2.2.1
              have d4 := HQk.out.cells.2.2.2.2.1
              have ltr := HP_r.out.lt
              have frr := HP_r.out.frozen 12
              go_wp2_with (first
                | (refine sel (some 152) (.load _ (.tmp 3)) ?_; refine Vm_stop ?_))
              refine HoleV.mk ?_
              have hsr := setAt wk wj.heap.size 12 (.int .u8 (q.st : Nat))
              have HQ2 := Lib.hid (HQk.out.keep hsr (show ¬ bq = wj.heap.size by omega))
              have hp2 := HP_r.out.setSt q.st
              rw [HQe.out] at hp2
              have HR2 := Lib.hid hp2
              have HRa := Lib.hid (HRk.out.keep hsr (fun b o e1 e2 => by have := rd_lt (HR.out.non HGk.out) b o e1 e2; omega))
              have HRb := Lib.hid (HRqk.out.keep hsr (fun b o e1 e2 => by have := rd_lt (HRq.out.non HGk.out) b o e1 e2; omega))
              have HG := Lib.hid (HG.out.then_new hsr (fun x e => by have h1 := HPj.out.lt; omega))
              clear hsr hp2 a4 d4 ltr frr
              refine wpList_load_row rfl 26 (.tmp 3) rfl bq rfl 26 _ (0, 0) _ HQ2.out.out Tryz.underlying26 rfl (by rw [partC_size HQ2.out.len]; exact info_part) ?_
              go_wp2_with (first
                | (refine sel (some 153) (.load _ (.tmp 12)) ?_; refine Vm_stop ?_))
              refine HoleV.mk ?_
              refine wpList_load_row rfl 26 (.tmp 12) rfl wj.heap.size rfl 26 _ (0, 0) _ HR2.out.out Tryz.underlying26 rfl (by rw [partC_size HR2.out.len]; exact info_part) ?_
              go_wp2_with fail
              refine (Same_eq q A1 A p.mem c1 c _ HSb.out (by have h := HRb.out; rw [HQm.out] at h; exact h) HRa.out).mono ?_
              rintro e wy ⟨rfl, gy⟩
              have HG := Lib.hid (HG.out.then_non gy)
              clear gy
              go_wp2_with fail
              refine (vawake_ok _ (HE.out.non HG.out)).mono ?_
              rintro e wz ⟨rfl, gz⟩
              have HG := Lib.hid (HG.out.then_non gz)
              clear gz
              go_wp2_with fail
              go_ret
              exact ⟨rfl, HG.out⟩
            · have t1 : ((q.st : Int) != (p.st : Int)) = true := by rw [bne_iff_ne]; omega
              clear hs hfl
              go_wp2_with (first
                | (refine sel (some 148) (.load _ (.tmp 1)) ?_; refine Vm_stop ?_))
              refine HoleV.mk ?_
              refine wpList_load_row rfl 26 (.tmp 1) rfl w.heap.size rfl 26 _ (0, 0) _ HPj.out.out Tryz.underlying26 rfl (by rw [partC_size HPj.out.len]; exact info_part) ?_
              go_wp2_with (first
                | (refine sel none (.store _ (.tmp 12) (.tmp 148)) ?_; refine Vm_stop ?_))
              refine HoleV.mk ?_
              refine wpList_store_rowA rfl 26 (.tmp 12) (.tmp 148) rfl wj.heap.size (partC p (.slice A p.mem.length c)) rfl rfl 26 zeroPart (heap_alloc_new wj _) (by rw [partC_size h8]; exact info_part) (by rw [partC_size h8]; rfl) (partC_one _ _ rfl) ?_
              intro wk hgW hbW
              have hgn : Chg Non wj wk := ((Chg.refl Non wj).alloc (.cells zeroPart 26)).then_new hgW (fun x e => by omega)
              have HP_r : Hid (PartB wk wj.heap.size p (.slice A p.mem.length c)) := Lib.hid ⟨hbW, h8⟩
              have HG := Lib.hid (HG.out.then_non hgn)
              have HQk := Lib.hid (HQj.out.non hgn)
              have HRk := Lib.hid ((HR.out.non HGk.out).non hgn)
              have HRqk := Lib.hid ((HRq.out.non HGk.out).non hgn)
              have hqr := HQj.out.lt
              clear hgW hbW hgn a4 d4
              have a4 := HP_r.out.cells.2.2.2.2.1
              have d4 := HQk.out.cells.2.2.2.2.1
              have ltr := HP_r.out.lt
              have frr := HP_r.out.frozen 12
              go_wp2_with (first
                | (refine sel (some 152) (.load _ (.tmp 3)) ?_; refine Vm_stop ?_))
              refine HoleV.mk ?_
              have hsr := setAt wk wj.heap.size 12 (.int .u8 (q.st : Nat))
              have HQ2 := Lib.hid (HQk.out.keep hsr (show ¬ bq = wj.heap.size by omega))
              have hp2 := HP_r.out.setSt q.st
              rw [HQe.out] at hp2
              have HR2 := Lib.hid hp2
              have HRa := Lib.hid (HRk.out.keep hsr (fun b o e1 e2 => by have := rd_lt (HR.out.non HGk.out) b o e1 e2; omega))
              have HRb := Lib.hid (HRqk.out.keep hsr (fun b o e1 e2 => by have := rd_lt (HRq.out.non HGk.out) b o e1 e2; omega))
              have HG := Lib.hid (HG.out.then_new hsr (fun x e => by have h1 := HPj.out.lt; omega))
              clear hsr hp2 a4 d4 ltr frr
              refine wpList_load_row rfl 26 (.tmp 3) rfl bq rfl 26 _ (0, 0) _ HQ2.out.out Tryz.underlying26 rfl (by rw [partC_size HQ2.out.len]; exact info_part) ?_
              go_wp2_with (first
                | (refine sel (some 153) (.load _ (.tmp 12)) ?_; refine Vm_stop ?_))
              refine HoleV.mk ?_
              refine wpList_load_row rfl 26 (.tmp 12) rfl wj.heap.size rfl 26 _ (0, 0) _ HR2.out.out Tryz.underlying26 rfl (by rw [partC_size HR2.out.len]; exact info_part) ?_
              go_wp2_with fail
              refine (Same_eq q A1 A p.mem c1 c _ HSb.out (by have h := HRb.out; rw [HQm.out] at h; exact h) HRa.out).mono ?_
              rintro e wy ⟨rfl, gy⟩
              have HG := Lib.hid (HG.out.then_non gy)
              clear gy
              go_wp2_with fail
              refine (vawake_ok _ (HE.out.non HG.out)).mono ?_
              rintro e wz ⟨rfl, gz⟩
              have HG := Lib.hid (HG.out.then_non gz)
              clear gz
              go_wp2_with fail
              go_ret
              exact ⟨rfl, HG.out⟩
          · have hs : q.st = p.st := Classical.byContradiction fun h => hfl (.inl h)
            have her : er = 0 := Classical.byContradiction fun h => hfl (.inr h)
            have t1 : ((q.st : Int) != (p.st : Int)) = false := by rw [hs]; simp
            have t2 : ((er : Int) != 0) = false := by rw [her]; rfl
            clear hs her hfl g5
            by_cases hk : 0 ≤ k
            · obtain ⟨hD0, hn0, hpc⟩ := g4 hk
              subst hD0
              subst hn0
              have s6 : decide (k ≥ 0) = true := by simpa using hk
              obtain ⟨pv, hpv⟩ : ∃ pv, q.pc = pv := ⟨_, rfl⟩
              have hpcv : ((p.pc : Int) + 4) % 4294967296 = pv := by rw [← hpv, hpc]; omega
              rw [hpv] at d11
              clear g1 g2 g3 g4 hk hpc hpv
              go_wp2_with fail
              refine (vawake_ok _ (HE.out.non HG.out)).mono ?_
              rintro e wz ⟨rfl, gz⟩
              have HG := Lib.hid (HG.out.then_non gz)
              clear gz
              go_wp2_with fail
              go_ret
              exact ⟨rfl, HG.out⟩
            · have s6 : decide (k ≥ 0) = false := by simp; omega
              by_cases hn : n = 0
              · subst hn
                have s1 : decide ((D : Int) > 1) = false := by simp; omega
                clear g1 g2 g3 g4 hk
                go_wp2_with fail
                refine (vawake_ok _ (HE.out.non HG.out)).mono ?_
                rintro e wz ⟨rfl, gz⟩
                have HG := Lib.hid (HG.out.then_non gz)
                clear gz
                go_wp2_with fail
                go_ret
                exact ⟨rfl, HG.out⟩
              · obtain ⟨h1, h2⟩ := g3 (by omega)
                subst h2
                have s2 : decide ((n : Int) > 4) = false := by simp; omega
                have s3 : decide ((n : Int) > 0) = true := by simp; omega
                have s4 : decide (L - F > 3) = false := by simp; omega
                clear g1 g2 g3 g4 hk hn h1
                go_wp2_with fail
                all_goals
                  refine (vawake_ok _ (HE.out.non HG.out)).mono ?_
                  rintro e wz ⟨rfl, gz⟩
                  have HG := Lib.hid (HG.out.then_non gz)
                  clear gz
                  go_wp2_with fail
                  go_ret
                  exact ⟨rfl, HG.out⟩
theorem VmLocal_ok (p : Pt) (A : Option Addr) (c : Nat) (w : World) (hE : Env w) (hb : p.Bd) (hr : Rd w A p.mem) :
    Calls Tryz.prog 4 #[.agg (partC p (.slice A p.mem.length c))] w fun e w' => e = .returned (.bool true) ∧ Chg Non w w' := by
  rcases Nat.lt_or_ge 512 p.mem.length with h | h
  · exact local_long p A c w hE hb.r8 h
  · exact local_walk p A c w hE hb hr h
end Go.Proofs.YtpcmnphohneddaaGreatDoor
