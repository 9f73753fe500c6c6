/- Package vm: Step by cases. (Written by wip/merge_vm.py.) -/
import Derived.Test.YtpcmnphohneddaaGreatDoorVp3
namespace Go.Proofs.YtpcmnphohneddaaGreatDoor
open Go.RowKit
set_option linter.unusedVariables false

set_option maxRecDepth 100000 in
set_option maxHeartbeats 4000000 in
theorem step_mk4 (p : Pt) (A : Option Addr) (c : Nat) (w : World) (hb : p.Bd) (hr : Rd w A p.mem) (hl : p.mem.length ≤ 140737488355328) (hs : p.st = 0) (ht : there p.mem p.pc 4 = true) (f0 f1 f2 f3 : UInt8) (hcut : cut p.mem p.pc 4 = [f0, f1, f2, f3]) (op a b2 cc n : Nat) (hd : decI f0.toNat f1.toNat f2.toNat f3.toNat = ⟨op, a, b2, cc, (n : Nat)⟩) (hm : mayB ⟨op, a, b2, cc, (n : Nat)⟩ = true) (hj : jumpsB ⟨op, a, b2, cc, (n : Nat)⟩ p = false) (hop : op = 4) :
    Calls Tryz.prog 9 #[.agg (partC p (.slice A p.mem.length c))] w (RetStep w ({ p.set a (mk2 4 (p.g b2) (p.g cc)) with pc := (p.pc + 4) % 4294967296 }) (-1) (0)) := by
  obtain ⟨pv, hpv⟩ : ∃ pv, (p.pc + 4) % 4294967296 = pv := ⟨_, rfl⟩
  have hpcv : ((p.pc : Int) + 4) % 4294967296 = pv := by omega
  rw [hpv]
  clear hpv
  have HT := Lib.hid ht
  have HM := Lib.hid hm
  have HDc := Lib.hid hd
  have hx1 := may_bd hm
  have ho22 : op < 22 := hx1.1
  have ha8 : a < 8 := hx1.2.1
  have hb8 : b2 < 8 := hx1.2.2.1
  have hc8 : cc < 8 := hx1.2.2.2.1
  have hn16 : n < 65536 := hx1.2.2.2.2
  have HF4 : Hid (Four (f0.toNat, f1.toNat, f2.toNat, f3.toNat)) := Lib.hid ⟨f0.toNat_lt, f1.toNat_lt, f2.toNat_lt, f3.toNat_lt⟩
  clear ht hm hd hx1
  have HJ := Lib.hid hj
  have HOp := Lib.hid hop
  clear hj hop
  have h8 := hb.r8
  have HBd := Lib.hid hb
  obtain ⟨C, hC⟩ : ∃ C, partC p (.slice A p.mem.length c) = C := ⟨_, rfl⟩
  have hsz : C.size = 14 := by rw [← hC]; exact partC_size h8 _
  have hcp := fun W hrW => Copy_ok p A p.mem c W h8 hrW hl
  rw [hC] at hcp ⊢
  have HCp := Lib.hid hcp
  have HR := Lib.hid hr
  clear hcp hC hr hb
  go_enter Tryz.func9, Tryz.ntmps9
  go_wp2_with (first
    | (refine sel (some 8) (.load _ (.tmp 1)) ?_; refine Vm_stop ?_))
  refine HoleV.mk ?_
  refine wpList_load_row rfl 26 (.tmp 1) rfl w.heap.size rfl 26 C (0, 0) _ (al_2_0 w _ _) Tryz.underlying26 rfl (by rw [hsz]; exact info_part) ?_
  go_wp2_with fail
  refine (HCp.out _ (HR.out.non (((Chg.refl Non w).alloc _).alloc _))).mono ?_
  rintro e w1 ⟨A2, c2, rfl, q1, q2, q3, q4⟩
  have hbx := blockN q4 (al_2_0 w (.cells C 26) (.cells zeroPart 26))
  have HBy := Lib.hid (blockN q4 (al_2_1 w (.cells C 26) (.cells zeroPart 26)))
  have HO := Lib.hid (q3.mono (show w.heap.size + 2 ≤ _ by simp))
  have HG := Lib.hid ((((Chg.refl Non w).alloc _).alloc _).then_non q4)
  clear q3 q4
  go_wp2_with (first
    | (refine sel none (.store _ (.tmp 1) (.tmp 9)) ?_; refine Vm_stop ?_))
  refine HoleV.mk ?_
  refine wpList_store_rowA rfl 26 (.tmp 1) (.tmp 9) rfl w.heap.size (partC p (.slice A2 p.mem.length c2)) rfl rfl 26 C hbx (by rw [partC_size h8]; exact info_part) (by rw [partC_size h8, hsz]) (partC_one _ _ rfl) ?_
  intro w2 hg2 hb2
  have hst0 : StS w w2 p A2 c2 := ⟨⟨hb2, h8⟩, blockS HBy.out hg2 (by omega), HO.out.keep hg2 (fun b o e1 e2 e3 e4 => by omega), HG.out.then_new hg2 (fun x e => by omega), q1, q2⟩
  have HS := Lib.hid hst0
  have c12 := hst0.pb.cells.2.2.2.2.1
  clear hg2 hb2 hst0 hbx
  have c12' : w2.cell? ⟨w.heap.size, 12, none⟩ = some (.int .u8 0) := by rw [hs] at c12; exact c12
  have c11 := HS.out.pb.cells.2.2.2.1
  have c13 := HS.out.pb.cells.2.2.2.2.2
  have hwp : IntKind.i64.wrap (p.pc : Int) = p.pc := Go.IntWalk.i64_in _ (by have := HBd.out.pcb; omega)
  clear c12 hs
  go_wp2_with fail
  have hrd := Read_yes A2 p.mem c2 p.pc 4 w2 HS.out.own.rd q1 q2 (by omega) HT.out
  rw [hcut] at hrd
  refine hrd.mono ?_
  rintro e y1 ⟨A3, c3, rfl, k1, k2, k3, k4⟩
  obtain ⟨b3, o3, rfl, _, hc3⟩ := k3.rd.at_ (by simp)
  have d0 := hc3 0 (by simp)
  have d1 := hc3 1 (by simp)
  have d2 := hc3 2 (by simp)
  have d3 := hc3 3 (by simp)
  simp only [Nat.add_zero, List.getElem_cons_zero, List.getElem_cons_succ] at d0 d1 d2 d3
  have HS := Lib.hid (HS.out.non k4)
  have harr : ∀ W : World, (Instr.arrayAt 41 (.slice (some ⟨b3, o3, none⟩) 4 c3)).run Tryz.prog W = .ok (.pointer (some ⟨b3, o3, none⟩)) W := fun W => run_arrayAt W _ _ 4 _ 4 c3 Tryz.underlying41 (Nat.le_refl _)
  clear hc3 k3 k4 hrd c12' c11 c13
  go_wp2_with fail
  refine (Dec_v f0.toNat f1.toNat f2.toNat f3.toNat op a b2 cc n _ HF4.out HDc.out HM.out).mono ?_
  rintro e y2 ⟨rfl, k5⟩
  have HS := Lib.hid (HS.out.non k5)
  clear k5 d0 d1 d2 d3
  go_wp2_with fail
  have HS3 := Lib.hid (HS.out.non ((Chg.refl Non _).alloc (.cells #[.int .u8 op, .int .u8 a, .int .u8 b2, .int .u8 cc, .int .i64 (n : Nat)] 38)))
  have HX3 := Lib.hid (heap_alloc_new y2 (.cells #[.int .u8 op, .int .u8 a, .int .u8 b2, .int .u8 cc, .int .i64 (n : Nat)] 38))
  refine (jumps_ok w.heap.size p _ op a b2 cc n _ HS3.out.pb ho22 ha8).mono ?_
  rw [HJ.out]
  rintro e y3 ⟨rfl, k6⟩
  have hs4 := HS3.out.non k6
  have HS4 := Lib.hid hs4
  have HX4 := Lib.hid (blockN k6 HX3.out)
  obtain ⟨⟨z, c0, c1, c2x, c3x, c4⟩, _⟩ := (Blk5.mk HX4.out).all
  have hxb : w.heap.size + 2 ≤ y2.heap.size := by have h1 := (Array.getElem?_eq_some_iff.1 HS.out.rb).1; omega
  have c11 := hs4.pb.cells.2.2.2.1
  have hlt := hs4.pb.lt
  clear k6 hs4
  have hop := HOp.out
  subst hop
  clear z c1 c2x c3x c4 c11
  go_wp2_with fail
  apply wp_cutB (α := Nat) (f := fun ob x => ((((x.put (some 45) (.agg opsC)).put (some 46) (.pointer (some ⟨y2.heap.size, 0, none⟩))).put (some 47) (.int .u8 4)).put (some 48) (.agg #[.func (.func 43) #[] #[], .nilFunc])).put (some 7) (.pointer (some ⟨ob, 0, none⟩)))
    (R := fun ob v => v.heap[ob]? = some (.cells #[.func (.func 43) #[] #[], .nilFunc] 53 (0, 0)) ∧ Chg Non y3 v ∧ y3.heap.size ≤ ob)
  · refine wp_region_held_drew (S := fun W => Chg Non y3 W) (by kernel_rfl) ((Chg.refl Non _).drew) (fun hHeld => ?_)
    clear hHeld
    refine h_pure 1 (some 46) (.pointer (some ⟨y2.heap.size, 0, none⟩)) rfl (by kernel_rfl) (by kernel_rfl) (by kernel_rfl) (by kernel_rfl) (fun _ _ _ h => absurd h.1 (by simp)) (by kernel_rfl) (fun W hW => by go_simp) ((Chg.refl Non _).drew) ?_
    simp only [Act.put, List.setIfInBounds_toArray, List.set_cons_zero, List.set_cons_succ]
    refine h_pure 2 (some 47) (.int .u8 4) rfl (by kernel_rfl) (by kernel_rfl) (by kernel_rfl) (by kernel_rfl) (fun _ _ _ h => absurd h.1 (by simp)) (by kernel_rfl) (fun W hW => by have hc := hW.cell_some c0 (fun e => e); go_simp) ((Chg.refl Non _).drew) ?_
    simp only [Act.put, List.setIfInBounds_toArray, List.set_cons_zero, List.set_cons_succ]
    refine h_two 0 4 (by kernel_rfl) rfl rfl (by kernel_rfl) (by kernel_rfl) ?_ ?_
    · intro K hK
      go_simp
      refine (ops_ok _).mono ?_
      rintro e u1 ⟨rfl, hg1⟩
      have HU1 := Lib.hid (((Chg.refl Non y3).drew).then_non hg1)
      have hsz := HU1.out.size
      clear hg1
      refine hK.out _ _ HU1.out (fun _ => ?_)
      clear hK K
      refine h_pure 3 (some 48) (.agg #[.func (.func 43) #[] #[], .nilFunc]) rfl (by kernel_rfl) (by kernel_rfl) (by kernel_rfl) (by kernel_rfl) (fun _ _ _ h => absurd h.1 (by simp)) (by kernel_rfl) (fun W hW => by kernel_rfl) HU1.out ?_
      simp only [Act.put, List.setIfInBounds_toArray, List.set_cons_zero, List.set_cons_succ]
      refine h_one 4 (by kernel_rfl) rfl (by kernel_rfl) ?_
      intro K hK
      go_simp
      refine hK.out _ _ (HU1.out.alloc _) (fun _ => ?_)
      clear hK K
      refine h_store 5 53 (.tmp 7) (.tmp 48) u1.heap.size #[.func (.func 43) #[] #[], .nilFunc] (by kernel_rfl) rfl (by kernel_rfl) rfl rfl rfl rfl 53 ⟨#[.nilFunc, .nilFunc], heap_alloc_new _ _, rfl⟩ info_vop (by simp [Value.oneCell']) (fun W hg hb => (HU1.out.alloc _).then_new hg (fun x e => by have := e; omega)) ?_
      intro W hgW hbW
      refine wpAnyH_done (by kernel_rfl) ?_ _
      exact ⟨rfl, u1.heap.size, by kernel_rfl, hbW, (HU1.out.alloc _).then_new hgW (fun x e => by have := e; omega), by omega⟩
    · intro K hK
      go_simp
      refine hK.out _ _ (((Chg.refl Non y3).drew).alloc _) (fun _ => ?_)
      clear hK K
      refine h_one 0 (by kernel_rfl) rfl (by kernel_rfl) ?_
      intro K hK
      go_simp
      refine (ops_ok _).mono ?_
      rintro e u1 ⟨rfl, hg1⟩
      have HU1 := Lib.hid ((((Chg.refl Non y3).drew).alloc _).then_non hg1)
      have HB1 := Lib.hid (blockN hg1 (heap_alloc_new y3.drew _))
      have hyd : y3.drew.heap.size = y3.heap.size := rfl
      clear hg1
      refine hK.out _ _ HU1.out (fun _ => ?_)
      clear hK K
      refine h_pure 3 (some 48) (.agg #[.func (.func 43) #[] #[], .nilFunc]) rfl (by kernel_rfl) (by kernel_rfl) (by kernel_rfl) (by kernel_rfl) (fun _ _ _ h => absurd h.1 (by simp)) (by kernel_rfl) (fun W hW => by kernel_rfl) HU1.out ?_
      simp only [Act.put, List.setIfInBounds_toArray, List.set_cons_zero, List.set_cons_succ]
      refine h_store 5 53 (.tmp 7) (.tmp 48) y3.heap.size #[.func (.func 43) #[] #[], .nilFunc] (by kernel_rfl) rfl (by kernel_rfl) rfl rfl rfl rfl 53 ⟨#[.nilFunc, .nilFunc], HB1.out, rfl⟩ info_vop (by simp [Value.oneCell']) (fun W hg hb => HU1.out.then_new hg (fun x e => by have := e; omega)) ?_
      intro W hgW hbW
      refine wpAnyH_done (by kernel_rfl) ?_ _
      exact ⟨rfl, y3.heap.size, by kernel_rfl, hbW, HU1.out.then_new hgW (fun x e => by have := e; omega), by omega⟩
  rintro ob u ⟨hob, hgu, hle⟩
  simp only [Act.put, List.setIfInBounds_toArray, List.set_cons_zero, List.set_cons_succ]
  have HS6 := Lib.hid (HS4.out.non hgu)
  have HX6 := Lib.hid (blockN hgu HX4.out)
  have HOb := Lib.hid hob
  have o0 : u.cell? ⟨ob, 0, none⟩ = some (.func (.func 43) #[] #[]) := row_cell hob rfl
  have o1 : u.cell? ⟨ob, 1, none⟩ = some (.nilFunc) := row_cell hob rfl
  have hobx : w.heap.size + 2 ≤ ob := by have h1 := (Array.getElem?_eq_some_iff.1 HS4.out.rb).1; omega
  clear hob hgu c0
  have hne1 := fn_ne 43
  obtain ⟨rb, hrb⟩ : ∃ rb, p.g b2 = rb := ⟨_, rfl⟩
  obtain ⟨rc, hrc⟩ : ∃ rc, p.g cc = rc := ⟨_, rfl⟩
  have hrb32 : rb < 4294967296 := by rw [← hrb]; exact HBd.out.rb b2
  have hrc32 : rc < 4294967296 := by rw [← hrc]; exact HBd.out.rb cc
  rw [hrb, hrc]
  have HRb := Lib.hid hrb
  have HRc := Lib.hid hrc
  clear hrb hrc
  go_wp2_with fail
  refine wp_region_still_tail 17 (by kernel_rfl) (by kernel_rfl) ?_
  simp only [List.take_succ_cons, List.take_zero, List.drop_succ_cons, List.drop_zero]
  change wpStill _ _ u.drew (fun a' => wpList _ _ _ _ a' u.drew) _ _
  have hgd : Chg Non u u.drew := (Chg.refl Non u).drew
  have HS7 := Lib.hid (HS6.out.non hgd)
  have HX7 := Lib.hid (blockN hgd HX6.out)
  have HO7 := Lib.hid (blockN hgd HOb.out)
  clear hgd o0 o1
  generalize u.drew = u7 at HS7 HX7 HO7 ⊢
  obtain ⟨⟨z, c0, c1, c2x, c3x, c4⟩, _⟩ := (Blk5.mk HX7.out).all
  have o0 : u7.cell? ⟨ob, 0, none⟩ = some (.func (.func 43) #[] #[]) := row_cell HO7.out rfl
  have hgb := HS7.out.pb.reg b2 hb8
  have hgc := HS7.out.pb.reg cc hc8
  rw [HRb.out] at hgb
  rw [HRc.out] at hgc
  have hga := HS7.out.pb.reg a ha8
  have hlt7 := HS7.out.pb.lt
  have hf7 := HS7.out.pb.frozen (3 + a)
  have hai : (a : Int) < 8 := by omega
  have hbi : (b2 : Int) < 8 := by omega
  have hci : (cc : Int) < 8 := by omega
  iterate 14 still_step
  still_call ((mk_add rb rc u7 hrb32 hrc32).mono (fun e w' h => ⟨h.1, h.2.symm⟩))
  iterate 2 still_step
  refine wpStill_nil ?_
  obtain ⟨mv, hmv⟩ : ∃ mv, mk2 4 rb rc = mv := ⟨_, rfl⟩
  rw [hmv]
  have HMv := Lib.hid hmv
  clear hmv c0 c1 c2x c3x c4 o0
  have HS7b := Lib.hid (HS7.out.at (setAt u7 w.heap.size (3 + a) (.int .u32 (mv : Nat))) (HS7.out.pb.setReg a mv ha8) rfl)
  have HX7b := Lib.hid (blockS HX7.out (setAt u7 w.heap.size (3 + a) (.int .u32 (mv : Nat))) (show ¬ y2.heap.size = w.heap.size by omega))
  have hc11 : World.cell? _ ⟨w.heap.size, 11, none⟩ = some (.int .u32 (p.pc : Nat)) := HS7b.out.pb.cells.2.2.2.1
  have hlt7 := HS7b.out.pb.lt
  have hf7 := HS7b.out.pb.frozen 11
  have hx7 := row_cell (i := 0) HX7b.out rfl
  have hxne : y2.heap.size ≠ w.heap.size := by omega
  have HS8 := Lib.hid (HS7b.out.at (setAt _ w.heap.size 11 (.int .u32 (pv : Nat))) (HS7b.out.pb.setPc pv) rfl)
  have HX8 := Lib.hid (blockS HX7b.out (setAt _ w.heap.size 11 (.int .u32 (pv : Nat))) hxne)
  have hcl := nm_call 4 (by decide)
  obtain ⟨N, hN⟩ : ∃ N, (opAt 4).name = N := ⟨_, rfl⟩
  have HNm : Hid (∀ W, Calls Tryz.prog 17 #[.int .u8 4] W fun e w' => e = .returned (.string ⟨N.toArray⟩) ∧ Chg Non W w') := Lib.hid (fun W => by have h := Name_ok 4 W; rw [hN] at h; exact h)
  rw [hN, show decide (4 = 20) = false from rfl] at hcl
  clear hN
  go_wp2_with fail
  refine (HNm.out _).mono ?_
  rintro e w9 ⟨rfl, k9⟩
  have HS9 := Lib.hid (HS8.out.non k9)
  have HX9 := Lib.hid (blockN k9 HX8.out)
  clear k9 hc11 hlt7 hf7 hx7
  go_wp2_with (first
    | (refine sel (some 92) (.load _ (.tmp 1)) ?_; refine Vm_stop ?_))
  refine HoleV.mk ?_
  refine wpList_load_row rfl 26 (.tmp 1) rfl w.heap.size rfl 26 _ (0, 0) _ HS9.out.pb.out Tryz.underlying26 rfl (by rw [partC_size HS9.out.pb.len]; exact info_part) ?_
  go_wp2_with (first
    | (refine sel none (.store _ (.tmp 2) (.tmp 92)) ?_; refine Vm_stop ?_))
  refine HoleV.mk ?_
  refine wpList_store_rowA rfl 26 (.tmp 2) (.tmp 92) rfl (w.heap.size + 1) _ rfl rfl 26 zeroPart HS9.out.rb (by rw [partC_size HS9.out.pb.len]; exact info_part) (by rw [partC_size HS9.out.pb.len]; rfl) (partC_one _ _ rfl) ?_
  intro WR hgR hbR
  have HBR := Lib.hid hbR
  have HGR := Lib.hid hgR
  clear hbR hgR
  go_wp2_with fail
  refine bodyPost_ret (results_ctt Tryz.results9 _ _ (w.heap.size + 1) 26 _ (0, 0) _ (.int .i64 (-1)) (.int .i64 (0)) rfl rfl rfl HBR.out Tryz.underlying26 rfl (by rw [partC_size HS9.out.pb.len]; exact info_part)) rfl ?_
  exact ⟨_, _, by rw [HRb.out, HRc.out, HMv.out], HS9.out.h1, HS9.out.h2, (HS9.out.own.keep HGR.out (fun b o e1 e2 e3 e4 => by omega)).mono (by omega), HS9.out.chg.then_new HGR.out (fun x e => by omega)⟩
set_option maxRecDepth 100000 in
set_option maxHeartbeats 4000000 in
theorem step_mk5 (p : Pt) (A : Option Addr) (c : Nat) (w : World) (hb : p.Bd) (hr : Rd w A p.mem) (hl : p.mem.length ≤ 140737488355328) (hs : p.st = 0) (ht : there p.mem p.pc 4 = true) (f0 f1 f2 f3 : UInt8) (hcut : cut p.mem p.pc 4 = [f0, f1, f2, f3]) (op a b2 cc n : Nat) (hd : decI f0.toNat f1.toNat f2.toNat f3.toNat = ⟨op, a, b2, cc, (n : Nat)⟩) (hm : mayB ⟨op, a, b2, cc, (n : Nat)⟩ = true) (hj : jumpsB ⟨op, a, b2, cc, (n : Nat)⟩ p = false) (hop : op = 5) :
    Calls Tryz.prog 9 #[.agg (partC p (.slice A p.mem.length c))] w (RetStep w ({ p.set a (mk2 5 (p.g b2) (p.g cc)) with pc := (p.pc + 4) % 4294967296 }) (-1) (0)) := by
  obtain ⟨pv, hpv⟩ : ∃ pv, (p.pc + 4) % 4294967296 = pv := ⟨_, rfl⟩
  have hpcv : ((p.pc : Int) + 4) % 4294967296 = pv := by omega
  rw [hpv]
  clear hpv
  have HT := Lib.hid ht
  have HM := Lib.hid hm
  have HDc := Lib.hid hd
  have hx1 := may_bd hm
  have ho22 : op < 22 := hx1.1
  have ha8 : a < 8 := hx1.2.1
  have hb8 : b2 < 8 := hx1.2.2.1
  have hc8 : cc < 8 := hx1.2.2.2.1
  have hn16 : n < 65536 := hx1.2.2.2.2
  have HF4 : Hid (Four (f0.toNat, f1.toNat, f2.toNat, f3.toNat)) := Lib.hid ⟨f0.toNat_lt, f1.toNat_lt, f2.toNat_lt, f3.toNat_lt⟩
  clear ht hm hd hx1
  have HJ := Lib.hid hj
  have HOp := Lib.hid hop
  clear hj hop
  have h8 := hb.r8
  have HBd := Lib.hid hb
  obtain ⟨C, hC⟩ : ∃ C, partC p (.slice A p.mem.length c) = C := ⟨_, rfl⟩
  have hsz : C.size = 14 := by rw [← hC]; exact partC_size h8 _
  have hcp := fun W hrW => Copy_ok p A p.mem c W h8 hrW hl
  rw [hC] at hcp ⊢
  have HCp := Lib.hid hcp
  have HR := Lib.hid hr
  clear hcp hC hr hb
  go_enter Tryz.func9, Tryz.ntmps9
  go_wp2_with (first
    | (refine sel (some 8) (.load _ (.tmp 1)) ?_; refine Vm_stop ?_))
  refine HoleV.mk ?_
  refine wpList_load_row rfl 26 (.tmp 1) rfl w.heap.size rfl 26 C (0, 0) _ (al_2_0 w _ _) Tryz.underlying26 rfl (by rw [hsz]; exact info_part) ?_
  go_wp2_with fail
  refine (HCp.out _ (HR.out.non (((Chg.refl Non w).alloc _).alloc _))).mono ?_
  rintro e w1 ⟨A2, c2, rfl, q1, q2, q3, q4⟩
  have hbx := blockN q4 (al_2_0 w (.cells C 26) (.cells zeroPart 26))
  have HBy := Lib.hid (blockN q4 (al_2_1 w (.cells C 26) (.cells zeroPart 26)))
  have HO := Lib.hid (q3.mono (show w.heap.size + 2 ≤ _ by simp))
  have HG := Lib.hid ((((Chg.refl Non w).alloc _).alloc _).then_non q4)
  clear q3 q4
  go_wp2_with (first
    | (refine sel none (.store _ (.tmp 1) (.tmp 9)) ?_; refine Vm_stop ?_))
  refine HoleV.mk ?_
  refine wpList_store_rowA rfl 26 (.tmp 1) (.tmp 9) rfl w.heap.size (partC p (.slice A2 p.mem.length c2)) rfl rfl 26 C hbx (by rw [partC_size h8]; exact info_part) (by rw [partC_size h8, hsz]) (partC_one _ _ rfl) ?_
  intro w2 hg2 hb2
  have hst0 : StS w w2 p A2 c2 := ⟨⟨hb2, h8⟩, blockS HBy.out hg2 (by omega), HO.out.keep hg2 (fun b o e1 e2 e3 e4 => by omega), HG.out.then_new hg2 (fun x e => by omega), q1, q2⟩
  have HS := Lib.hid hst0
  have c12 := hst0.pb.cells.2.2.2.2.1
  clear hg2 hb2 hst0 hbx
  have c12' : w2.cell? ⟨w.heap.size, 12, none⟩ = some (.int .u8 0) := by rw [hs] at c12; exact c12
  have c11 := HS.out.pb.cells.2.2.2.1
  have c13 := HS.out.pb.cells.2.2.2.2.2
  have hwp : IntKind.i64.wrap (p.pc : Int) = p.pc := Go.IntWalk.i64_in _ (by have := HBd.out.pcb; omega)
  clear c12 hs
  go_wp2_with fail
  have hrd := Read_yes A2 p.mem c2 p.pc 4 w2 HS.out.own.rd q1 q2 (by omega) HT.out
  rw [hcut] at hrd
  refine hrd.mono ?_
  rintro e y1 ⟨A3, c3, rfl, k1, k2, k3, k4⟩
  obtain ⟨b3, o3, rfl, _, hc3⟩ := k3.rd.at_ (by simp)
  have d0 := hc3 0 (by simp)
  have d1 := hc3 1 (by simp)
  have d2 := hc3 2 (by simp)
  have d3 := hc3 3 (by simp)
  simp only [Nat.add_zero, List.getElem_cons_zero, List.getElem_cons_succ] at d0 d1 d2 d3
  have HS := Lib.hid (HS.out.non k4)
  have harr : ∀ W : World, (Instr.arrayAt 41 (.slice (some ⟨b3, o3, none⟩) 4 c3)).run Tryz.prog W = .ok (.pointer (some ⟨b3, o3, none⟩)) W := fun W => run_arrayAt W _ _ 4 _ 4 c3 Tryz.underlying41 (Nat.le_refl _)
  clear hc3 k3 k4 hrd c12' c11 c13
  go_wp2_with fail
  refine (Dec_v f0.toNat f1.toNat f2.toNat f3.toNat op a b2 cc n _ HF4.out HDc.out HM.out).mono ?_
  rintro e y2 ⟨rfl, k5⟩
  have HS := Lib.hid (HS.out.non k5)
  clear k5 d0 d1 d2 d3
  go_wp2_with fail
  have HS3 := Lib.hid (HS.out.non ((Chg.refl Non _).alloc (.cells #[.int .u8 op, .int .u8 a, .int .u8 b2, .int .u8 cc, .int .i64 (n : Nat)] 38)))
  have HX3 := Lib.hid (heap_alloc_new y2 (.cells #[.int .u8 op, .int .u8 a, .int .u8 b2, .int .u8 cc, .int .i64 (n : Nat)] 38))
  refine (jumps_ok w.heap.size p _ op a b2 cc n _ HS3.out.pb ho22 ha8).mono ?_
  rw [HJ.out]
  rintro e y3 ⟨rfl, k6⟩
  have hs4 := HS3.out.non k6
  have HS4 := Lib.hid hs4
  have HX4 := Lib.hid (blockN k6 HX3.out)
  obtain ⟨⟨z, c0, c1, c2x, c3x, c4⟩, _⟩ := (Blk5.mk HX4.out).all
  have hxb : w.heap.size + 2 ≤ y2.heap.size := by have h1 := (Array.getElem?_eq_some_iff.1 HS.out.rb).1; omega
  have c11 := hs4.pb.cells.2.2.2.1
  have hlt := hs4.pb.lt
  clear k6 hs4
  have hop := HOp.out
  subst hop
  clear z c1 c2x c3x c4 c11
  go_wp2_with fail
  apply wp_cutB (α := Nat) (f := fun ob x => ((((x.put (some 45) (.agg opsC)).put (some 46) (.pointer (some ⟨y2.heap.size, 0, none⟩))).put (some 47) (.int .u8 5)).put (some 48) (.agg #[.func (.func 44) #[] #[], .nilFunc])).put (some 7) (.pointer (some ⟨ob, 0, none⟩)))
    (R := fun ob v => v.heap[ob]? = some (.cells #[.func (.func 44) #[] #[], .nilFunc] 53 (0, 0)) ∧ Chg Non y3 v ∧ y3.heap.size ≤ ob)
  · refine wp_region_held_drew (S := fun W => Chg Non y3 W) (by kernel_rfl) ((Chg.refl Non _).drew) (fun hHeld => ?_)
    clear hHeld
    refine h_pure 1 (some 46) (.pointer (some ⟨y2.heap.size, 0, none⟩)) rfl (by kernel_rfl) (by kernel_rfl) (by kernel_rfl) (by kernel_rfl) (fun _ _ _ h => absurd h.1 (by simp)) (by kernel_rfl) (fun W hW => by go_simp) ((Chg.refl Non _).drew) ?_
    simp only [Act.put, List.setIfInBounds_toArray, List.set_cons_zero, List.set_cons_succ]
    refine h_pure 2 (some 47) (.int .u8 5) rfl (by kernel_rfl) (by kernel_rfl) (by kernel_rfl) (by kernel_rfl) (fun _ _ _ h => absurd h.1 (by simp)) (by kernel_rfl) (fun W hW => by have hc := hW.cell_some c0 (fun e => e); go_simp) ((Chg.refl Non _).drew) ?_
    simp only [Act.put, List.setIfInBounds_toArray, List.set_cons_zero, List.set_cons_succ]
    refine h_two 0 4 (by kernel_rfl) rfl rfl (by kernel_rfl) (by kernel_rfl) ?_ ?_
    · intro K hK
      go_simp
      refine (ops_ok _).mono ?_
      rintro e u1 ⟨rfl, hg1⟩
      have HU1 := Lib.hid (((Chg.refl Non y3).drew).then_non hg1)
      have hsz := HU1.out.size
      clear hg1
      refine hK.out _ _ HU1.out (fun _ => ?_)
      clear hK K
      refine h_pure 3 (some 48) (.agg #[.func (.func 44) #[] #[], .nilFunc]) rfl (by kernel_rfl) (by kernel_rfl) (by kernel_rfl) (by kernel_rfl) (fun _ _ _ h => absurd h.1 (by simp)) (by kernel_rfl) (fun W hW => by kernel_rfl) HU1.out ?_
      simp only [Act.put, List.setIfInBounds_toArray, List.set_cons_zero, List.set_cons_succ]
      refine h_one 4 (by kernel_rfl) rfl (by kernel_rfl) ?_
      intro K hK
      go_simp
      refine hK.out _ _ (HU1.out.alloc _) (fun _ => ?_)
      clear hK K
      refine h_store 5 53 (.tmp 7) (.tmp 48) u1.heap.size #[.func (.func 44) #[] #[], .nilFunc] (by kernel_rfl) rfl (by kernel_rfl) rfl rfl rfl rfl 53 ⟨#[.nilFunc, .nilFunc], heap_alloc_new _ _, rfl⟩ info_vop (by simp [Value.oneCell']) (fun W hg hb => (HU1.out.alloc _).then_new hg (fun x e => by have := e; omega)) ?_
      intro W hgW hbW
      refine wpAnyH_done (by kernel_rfl) ?_ _
      exact ⟨rfl, u1.heap.size, by kernel_rfl, hbW, (HU1.out.alloc _).then_new hgW (fun x e => by have := e; omega), by omega⟩
    · intro K hK
      go_simp
      refine hK.out _ _ (((Chg.refl Non y3).drew).alloc _) (fun _ => ?_)
      clear hK K
      refine h_one 0 (by kernel_rfl) rfl (by kernel_rfl) ?_
      intro K hK
      go_simp
      refine (ops_ok _).mono ?_
      rintro e u1 ⟨rfl, hg1⟩
      have HU1 := Lib.hid ((((Chg.refl Non y3).drew).alloc _).then_non hg1)
      have HB1 := Lib.hid (blockN hg1 (heap_alloc_new y3.drew _))
      have hyd : y3.drew.heap.size = y3.heap.size := rfl
      clear hg1
      refine hK.out _ _ HU1.out (fun _ => ?_)
      clear hK K
      refine h_pure 3 (some 48) (.agg #[.func (.func 44) #[] #[], .nilFunc]) rfl (by kernel_rfl) (by kernel_rfl) (by kernel_rfl) (by kernel_rfl) (fun _ _ _ h => absurd h.1 (by simp)) (by kernel_rfl) (fun W hW => by kernel_rfl) HU1.out ?_
      simp only [Act.put, List.setIfInBounds_toArray, List.set_cons_zero, List.set_cons_succ]
      refine h_store 5 53 (.tmp 7) (.tmp 48) y3.heap.size #[.func (.func 44) #[] #[], .nilFunc] (by kernel_rfl) rfl (by kernel_rfl) rfl rfl rfl rfl 53 ⟨#[.nilFunc, .nilFunc], HB1.out, rfl⟩ info_vop (by simp [Value.oneCell']) (fun W hg hb => HU1.out.then_new hg (fun x e => by have := e; omega)) ?_
      intro W hgW hbW
      refine wpAnyH_done (by kernel_rfl) ?_ _
      exact ⟨rfl, y3.heap.size, by kernel_rfl, hbW, HU1.out.then_new hgW (fun x e => by have := e; omega), by omega⟩
  rintro ob u ⟨hob, hgu, hle⟩
  simp only [Act.put, List.setIfInBounds_toArray, List.set_cons_zero, List.set_cons_succ]
  have HS6 := Lib.hid (HS4.out.non hgu)
  have HX6 := Lib.hid (blockN hgu HX4.out)
  have HOb := Lib.hid hob
  have o0 : u.cell? ⟨ob, 0, none⟩ = some (.func (.func 44) #[] #[]) := row_cell hob rfl
  have o1 : u.cell? ⟨ob, 1, none⟩ = some (.nilFunc) := row_cell hob rfl
  have hobx : w.heap.size + 2 ≤ ob := by have h1 := (Array.getElem?_eq_some_iff.1 HS4.out.rb).1; omega
  clear hob hgu c0
  have hne1 := fn_ne 44
  obtain ⟨rb, hrb⟩ : ∃ rb, p.g b2 = rb := ⟨_, rfl⟩
  obtain ⟨rc, hrc⟩ : ∃ rc, p.g cc = rc := ⟨_, rfl⟩
  have hrb32 : rb < 4294967296 := by rw [← hrb]; exact HBd.out.rb b2
  have hrc32 : rc < 4294967296 := by rw [← hrc]; exact HBd.out.rb cc
  rw [hrb, hrc]
  have HRb := Lib.hid hrb
  have HRc := Lib.hid hrc
  clear hrb hrc
  go_wp2_with fail
  refine wp_region_still_tail 17 (by kernel_rfl) (by kernel_rfl) ?_
  simp only [List.take_succ_cons, List.take_zero, List.drop_succ_cons, List.drop_zero]
  change wpStill _ _ u.drew (fun a' => wpList _ _ _ _ a' u.drew) _ _
  have hgd : Chg Non u u.drew := (Chg.refl Non u).drew
  have HS7 := Lib.hid (HS6.out.non hgd)
  have HX7 := Lib.hid (blockN hgd HX6.out)
  have HO7 := Lib.hid (blockN hgd HOb.out)
  clear hgd o0 o1
  generalize u.drew = u7 at HS7 HX7 HO7 ⊢
  obtain ⟨⟨z, c0, c1, c2x, c3x, c4⟩, _⟩ := (Blk5.mk HX7.out).all
  have o0 : u7.cell? ⟨ob, 0, none⟩ = some (.func (.func 44) #[] #[]) := row_cell HO7.out rfl
  have hgb := HS7.out.pb.reg b2 hb8
  have hgc := HS7.out.pb.reg cc hc8
  rw [HRb.out] at hgb
  rw [HRc.out] at hgc
  have hga := HS7.out.pb.reg a ha8
  have hlt7 := HS7.out.pb.lt
  have hf7 := HS7.out.pb.frozen (3 + a)
  have hai : (a : Int) < 8 := by omega
  have hbi : (b2 : Int) < 8 := by omega
  have hci : (cc : Int) < 8 := by omega
  iterate 14 still_step
  still_call ((mk_sub rb rc u7 hrb32 hrc32).mono (fun e w' h => ⟨h.1, h.2.symm⟩))
  iterate 2 still_step
  refine wpStill_nil ?_
  obtain ⟨mv, hmv⟩ : ∃ mv, mk2 5 rb rc = mv := ⟨_, rfl⟩
  rw [hmv]
  have HMv := Lib.hid hmv
  clear hmv c0 c1 c2x c3x c4 o0
  have HS7b := Lib.hid (HS7.out.at (setAt u7 w.heap.size (3 + a) (.int .u32 (mv : Nat))) (HS7.out.pb.setReg a mv ha8) rfl)
  have HX7b := Lib.hid (blockS HX7.out (setAt u7 w.heap.size (3 + a) (.int .u32 (mv : Nat))) (show ¬ y2.heap.size = w.heap.size by omega))
  have hc11 : World.cell? _ ⟨w.heap.size, 11, none⟩ = some (.int .u32 (p.pc : Nat)) := HS7b.out.pb.cells.2.2.2.1
  have hlt7 := HS7b.out.pb.lt
  have hf7 := HS7b.out.pb.frozen 11
  have hx7 := row_cell (i := 0) HX7b.out rfl
  have hxne : y2.heap.size ≠ w.heap.size := by omega
  have HS8 := Lib.hid (HS7b.out.at (setAt _ w.heap.size 11 (.int .u32 (pv : Nat))) (HS7b.out.pb.setPc pv) rfl)
  have HX8 := Lib.hid (blockS HX7b.out (setAt _ w.heap.size 11 (.int .u32 (pv : Nat))) hxne)
  have hcl := nm_call 5 (by decide)
  obtain ⟨N, hN⟩ : ∃ N, (opAt 5).name = N := ⟨_, rfl⟩
  have HNm : Hid (∀ W, Calls Tryz.prog 17 #[.int .u8 5] W fun e w' => e = .returned (.string ⟨N.toArray⟩) ∧ Chg Non W w') := Lib.hid (fun W => by have h := Name_ok 5 W; rw [hN] at h; exact h)
  rw [hN, show decide (5 = 20) = false from rfl] at hcl
  clear hN
  go_wp2_with fail
  refine (HNm.out _).mono ?_
  rintro e w9 ⟨rfl, k9⟩
  have HS9 := Lib.hid (HS8.out.non k9)
  have HX9 := Lib.hid (blockN k9 HX8.out)
  clear k9 hc11 hlt7 hf7 hx7
  go_wp2_with (first
    | (refine sel (some 92) (.load _ (.tmp 1)) ?_; refine Vm_stop ?_))
  refine HoleV.mk ?_
  refine wpList_load_row rfl 26 (.tmp 1) rfl w.heap.size rfl 26 _ (0, 0) _ HS9.out.pb.out Tryz.underlying26 rfl (by rw [partC_size HS9.out.pb.len]; exact info_part) ?_
  go_wp2_with (first
    | (refine sel none (.store _ (.tmp 2) (.tmp 92)) ?_; refine Vm_stop ?_))
  refine HoleV.mk ?_
  refine wpList_store_rowA rfl 26 (.tmp 2) (.tmp 92) rfl (w.heap.size + 1) _ rfl rfl 26 zeroPart HS9.out.rb (by rw [partC_size HS9.out.pb.len]; exact info_part) (by rw [partC_size HS9.out.pb.len]; rfl) (partC_one _ _ rfl) ?_
  intro WR hgR hbR
  have HBR := Lib.hid hbR
  have HGR := Lib.hid hgR
  clear hbR hgR
  go_wp2_with fail
  refine bodyPost_ret (results_ctt Tryz.results9 _ _ (w.heap.size + 1) 26 _ (0, 0) _ (.int .i64 (-1)) (.int .i64 (0)) rfl rfl rfl HBR.out Tryz.underlying26 rfl (by rw [partC_size HS9.out.pb.len]; exact info_part)) rfl ?_
  exact ⟨_, _, by rw [HRb.out, HRc.out, HMv.out], HS9.out.h1, HS9.out.h2, (HS9.out.own.keep HGR.out (fun b o e1 e2 e3 e4 => by omega)).mono (by omega), HS9.out.chg.then_new HGR.out (fun x e => by omega)⟩
set_option maxRecDepth 100000 in
set_option maxHeartbeats 4000000 in
theorem step_mk6 (p : Pt) (A : Option Addr) (c : Nat) (w : World) (hb : p.Bd) (hr : Rd w A p.mem) (hl : p.mem.length ≤ 140737488355328) (hs : p.st = 0) (ht : there p.mem p.pc 4 = true) (f0 f1 f2 f3 : UInt8) (hcut : cut p.mem p.pc 4 = [f0, f1, f2, f3]) (op a b2 cc n : Nat) (hd : decI f0.toNat f1.toNat f2.toNat f3.toNat = ⟨op, a, b2, cc, (n : Nat)⟩) (hm : mayB ⟨op, a, b2, cc, (n : Nat)⟩ = true) (hj : jumpsB ⟨op, a, b2, cc, (n : Nat)⟩ p = false) (hop : op = 6) :
    Calls Tryz.prog 9 #[.agg (partC p (.slice A p.mem.length c))] w (RetStep w ({ p.set a (mk2 6 (p.g b2) (p.g cc)) with pc := (p.pc + 4) % 4294967296 }) (-1) (0)) := by
  obtain ⟨pv, hpv⟩ : ∃ pv, (p.pc + 4) % 4294967296 = pv := ⟨_, rfl⟩
  have hpcv : ((p.pc : Int) + 4) % 4294967296 = pv := by omega
  rw [hpv]
  clear hpv
  have HT := Lib.hid ht
  have HM := Lib.hid hm
  have HDc := Lib.hid hd
  have hx1 := may_bd hm
  have ho22 : op < 22 := hx1.1
  have ha8 : a < 8 := hx1.2.1
  have hb8 : b2 < 8 := hx1.2.2.1
  have hc8 : cc < 8 := hx1.2.2.2.1
  have hn16 : n < 65536 := hx1.2.2.2.2
  have HF4 : Hid (Four (f0.toNat, f1.toNat, f2.toNat, f3.toNat)) := Lib.hid ⟨f0.toNat_lt, f1.toNat_lt, f2.toNat_lt, f3.toNat_lt⟩
  clear ht hm hd hx1
  have HJ := Lib.hid hj
  have HOp := Lib.hid hop
  clear hj hop
  have h8 := hb.r8
  have HBd := Lib.hid hb
  obtain ⟨C, hC⟩ : ∃ C, partC p (.slice A p.mem.length c) = C := ⟨_, rfl⟩
  have hsz : C.size = 14 := by rw [← hC]; exact partC_size h8 _
  have hcp := fun W hrW => Copy_ok p A p.mem c W h8 hrW hl
  rw [hC] at hcp ⊢
  have HCp := Lib.hid hcp
  have HR := Lib.hid hr
  clear hcp hC hr hb
  go_enter Tryz.func9, Tryz.ntmps9
  go_wp2_with (first
    | (refine sel (some 8) (.load _ (.tmp 1)) ?_; refine Vm_stop ?_))
  refine HoleV.mk ?_
  refine wpList_load_row rfl 26 (.tmp 1) rfl w.heap.size rfl 26 C (0, 0) _ (al_2_0 w _ _) Tryz.underlying26 rfl (by rw [hsz]; exact info_part) ?_
  go_wp2_with fail
  refine (HCp.out _ (HR.out.non (((Chg.refl Non w).alloc _).alloc _))).mono ?_
  rintro e w1 ⟨A2, c2, rfl, q1, q2, q3, q4⟩
  have hbx := blockN q4 (al_2_0 w (.cells C 26) (.cells zeroPart 26))
  have HBy := Lib.hid (blockN q4 (al_2_1 w (.cells C 26) (.cells zeroPart 26)))
  have HO := Lib.hid (q3.mono (show w.heap.size + 2 ≤ _ by simp))
  have HG := Lib.hid ((((Chg.refl Non w).alloc _).alloc _).then_non q4)
  clear q3 q4
  go_wp2_with (first
    | (refine sel none (.store _ (.tmp 1) (.tmp 9)) ?_; refine Vm_stop ?_))
  refine HoleV.mk ?_
  refine wpList_store_rowA rfl 26 (.tmp 1) (.tmp 9) rfl w.heap.size (partC p (.slice A2 p.mem.length c2)) rfl rfl 26 C hbx (by rw [partC_size h8]; exact info_part) (by rw [partC_size h8, hsz]) (partC_one _ _ rfl) ?_
  intro w2 hg2 hb2
  have hst0 : StS w w2 p A2 c2 := ⟨⟨hb2, h8⟩, blockS HBy.out hg2 (by omega), HO.out.keep hg2 (fun b o e1 e2 e3 e4 => by omega), HG.out.then_new hg2 (fun x e => by omega), q1, q2⟩
  have HS := Lib.hid hst0
  have c12 := hst0.pb.cells.2.2.2.2.1
  clear hg2 hb2 hst0 hbx
  have c12' : w2.cell? ⟨w.heap.size, 12, none⟩ = some (.int .u8 0) := by rw [hs] at c12; exact c12
  have c11 := HS.out.pb.cells.2.2.2.1
  have c13 := HS.out.pb.cells.2.2.2.2.2
  have hwp : IntKind.i64.wrap (p.pc : Int) = p.pc := Go.IntWalk.i64_in _ (by have := HBd.out.pcb; omega)
  clear c12 hs
  go_wp2_with fail
  have hrd := Read_yes A2 p.mem c2 p.pc 4 w2 HS.out.own.rd q1 q2 (by omega) HT.out
  rw [hcut] at hrd
  refine hrd.mono ?_
  rintro e y1 ⟨A3, c3, rfl, k1, k2, k3, k4⟩
  obtain ⟨b3, o3, rfl, _, hc3⟩ := k3.rd.at_ (by simp)
  have d0 := hc3 0 (by simp)
  have d1 := hc3 1 (by simp)
  have d2 := hc3 2 (by simp)
  have d3 := hc3 3 (by simp)
  simp only [Nat.add_zero, List.getElem_cons_zero, List.getElem_cons_succ] at d0 d1 d2 d3
  have HS := Lib.hid (HS.out.non k4)
  have harr : ∀ W : World, (Instr.arrayAt 41 (.slice (some ⟨b3, o3, none⟩) 4 c3)).run Tryz.prog W = .ok (.pointer (some ⟨b3, o3, none⟩)) W := fun W => run_arrayAt W _ _ 4 _ 4 c3 Tryz.underlying41 (Nat.le_refl _)
  clear hc3 k3 k4 hrd c12' c11 c13
  go_wp2_with fail
  refine (Dec_v f0.toNat f1.toNat f2.toNat f3.toNat op a b2 cc n _ HF4.out HDc.out HM.out).mono ?_
  rintro e y2 ⟨rfl, k5⟩
  have HS := Lib.hid (HS.out.non k5)
  clear k5 d0 d1 d2 d3
  go_wp2_with fail
  have HS3 := Lib.hid (HS.out.non ((Chg.refl Non _).alloc (.cells #[.int .u8 op, .int .u8 a, .int .u8 b2, .int .u8 cc, .int .i64 (n : Nat)] 38)))
  have HX3 := Lib.hid (heap_alloc_new y2 (.cells #[.int .u8 op, .int .u8 a, .int .u8 b2, .int .u8 cc, .int .i64 (n : Nat)] 38))
  refine (jumps_ok w.heap.size p _ op a b2 cc n _ HS3.out.pb ho22 ha8).mono ?_
  rw [HJ.out]
  rintro e y3 ⟨rfl, k6⟩
  have hs4 := HS3.out.non k6
  have HS4 := Lib.hid hs4
  have HX4 := Lib.hid (blockN k6 HX3.out)
  obtain ⟨⟨z, c0, c1, c2x, c3x, c4⟩, _⟩ := (Blk5.mk HX4.out).all
  have hxb : w.heap.size + 2 ≤ y2.heap.size := by have h1 := (Array.getElem?_eq_some_iff.1 HS.out.rb).1; omega
  have c11 := hs4.pb.cells.2.2.2.1
  have hlt := hs4.pb.lt
  clear k6 hs4
  have hop := HOp.out
  subst hop
  clear z c1 c2x c3x c4 c11
  go_wp2_with fail
  apply wp_cutB (α := Nat) (f := fun ob x => ((((x.put (some 45) (.agg opsC)).put (some 46) (.pointer (some ⟨y2.heap.size, 0, none⟩))).put (some 47) (.int .u8 6)).put (some 48) (.agg #[.func (.func 45) #[] #[], .nilFunc])).put (some 7) (.pointer (some ⟨ob, 0, none⟩)))
    (R := fun ob v => v.heap[ob]? = some (.cells #[.func (.func 45) #[] #[], .nilFunc] 53 (0, 0)) ∧ Chg Non y3 v ∧ y3.heap.size ≤ ob)
  · refine wp_region_held_drew (S := fun W => Chg Non y3 W) (by kernel_rfl) ((Chg.refl Non _).drew) (fun hHeld => ?_)
    clear hHeld
    refine h_pure 1 (some 46) (.pointer (some ⟨y2.heap.size, 0, none⟩)) rfl (by kernel_rfl) (by kernel_rfl) (by kernel_rfl) (by kernel_rfl) (fun _ _ _ h => absurd h.1 (by simp)) (by kernel_rfl) (fun W hW => by go_simp) ((Chg.refl Non _).drew) ?_
    simp only [Act.put, List.setIfInBounds_toArray, List.set_cons_zero, List.set_cons_succ]
    refine h_pure 2 (some 47) (.int .u8 6) rfl (by kernel_rfl) (by kernel_rfl) (by kernel_rfl) (by kernel_rfl) (fun _ _ _ h => absurd h.1 (by simp)) (by kernel_rfl) (fun W hW => by have hc := hW.cell_some c0 (fun e => e); go_simp) ((Chg.refl Non _).drew) ?_
    simp only [Act.put, List.setIfInBounds_toArray, List.set_cons_zero, List.set_cons_succ]
    refine h_two 0 4 (by kernel_rfl) rfl rfl (by kernel_rfl) (by kernel_rfl) ?_ ?_
    · intro K hK
      go_simp
      refine (ops_ok _).mono ?_
      rintro e u1 ⟨rfl, hg1⟩
      have HU1 := Lib.hid (((Chg.refl Non y3).drew).then_non hg1)
      have hsz := HU1.out.size
      clear hg1
      refine hK.out _ _ HU1.out (fun _ => ?_)
      clear hK K
      refine h_pure 3 (some 48) (.agg #[.func (.func 45) #[] #[], .nilFunc]) rfl (by kernel_rfl) (by kernel_rfl) (by kernel_rfl) (by kernel_rfl) (fun _ _ _ h => absurd h.1 (by simp)) (by kernel_rfl) (fun W hW => by kernel_rfl) HU1.out ?_
      simp only [Act.put, List.setIfInBounds_toArray, List.set_cons_zero, List.set_cons_succ]
      refine h_one 4 (by kernel_rfl) rfl (by kernel_rfl) ?_
      intro K hK
      go_simp
      refine hK.out _ _ (HU1.out.alloc _) (fun _ => ?_)
      clear hK K
      refine h_store 5 53 (.tmp 7) (.tmp 48) u1.heap.size #[.func (.func 45) #[] #[], .nilFunc] (by kernel_rfl) rfl (by kernel_rfl) rfl rfl rfl rfl 53 ⟨#[.nilFunc, .nilFunc], heap_alloc_new _ _, rfl⟩ info_vop (by simp [Value.oneCell']) (fun W hg hb => (HU1.out.alloc _).then_new hg (fun x e => by have := e; omega)) ?_
      intro W hgW hbW
      refine wpAnyH_done (by kernel_rfl) ?_ _
      exact ⟨rfl, u1.heap.size, by kernel_rfl, hbW, (HU1.out.alloc _).then_new hgW (fun x e => by have := e; omega), by omega⟩
    · intro K hK
      go_simp
      refine hK.out _ _ (((Chg.refl Non y3).drew).alloc _) (fun _ => ?_)
      clear hK K
      refine h_one 0 (by kernel_rfl) rfl (by kernel_rfl) ?_
      intro K hK
      go_simp
      refine (ops_ok _).mono ?_
      rintro e u1 ⟨rfl, hg1⟩
      have HU1 := Lib.hid ((((Chg.refl Non y3).drew).alloc _).then_non hg1)
      have HB1 := Lib.hid (blockN hg1 (heap_alloc_new y3.drew _))
      have hyd : y3.drew.heap.size = y3.heap.size := rfl
      clear hg1
      refine hK.out _ _ HU1.out (fun _ => ?_)
      clear hK K
      refine h_pure 3 (some 48) (.agg #[.func (.func 45) #[] #[], .nilFunc]) rfl (by kernel_rfl) (by kernel_rfl) (by kernel_rfl) (by kernel_rfl) (fun _ _ _ h => absurd h.1 (by simp)) (by kernel_rfl) (fun W hW => by kernel_rfl) HU1.out ?_
      simp only [Act.put, List.setIfInBounds_toArray, List.set_cons_zero, List.set_cons_succ]
      refine h_store 5 53 (.tmp 7) (.tmp 48) y3.heap.size #[.func (.func 45) #[] #[], .nilFunc] (by kernel_rfl) rfl (by kernel_rfl) rfl rfl rfl rfl 53 ⟨#[.nilFunc, .nilFunc], HB1.out, rfl⟩ info_vop (by simp [Value.oneCell']) (fun W hg hb => HU1.out.then_new hg (fun x e => by have := e; omega)) ?_
      intro W hgW hbW
      refine wpAnyH_done (by kernel_rfl) ?_ _
      exact ⟨rfl, y3.heap.size, by kernel_rfl, hbW, HU1.out.then_new hgW (fun x e => by have := e; omega), by omega⟩
  rintro ob u ⟨hob, hgu, hle⟩
  simp only [Act.put, List.setIfInBounds_toArray, List.set_cons_zero, List.set_cons_succ]
  have HS6 := Lib.hid (HS4.out.non hgu)
  have HX6 := Lib.hid (blockN hgu HX4.out)
  have HOb := Lib.hid hob
  have o0 : u.cell? ⟨ob, 0, none⟩ = some (.func (.func 45) #[] #[]) := row_cell hob rfl
  have o1 : u.cell? ⟨ob, 1, none⟩ = some (.nilFunc) := row_cell hob rfl
  have hobx : w.heap.size + 2 ≤ ob := by have h1 := (Array.getElem?_eq_some_iff.1 HS4.out.rb).1; omega
  clear hob hgu c0
  have hne1 := fn_ne 45
  obtain ⟨rb, hrb⟩ : ∃ rb, p.g b2 = rb := ⟨_, rfl⟩
  obtain ⟨rc, hrc⟩ : ∃ rc, p.g cc = rc := ⟨_, rfl⟩
  have hrb32 : rb < 4294967296 := by rw [← hrb]; exact HBd.out.rb b2
  have hrc32 : rc < 4294967296 := by rw [← hrc]; exact HBd.out.rb cc
  rw [hrb, hrc]
  have HRb := Lib.hid hrb
  have HRc := Lib.hid hrc
  clear hrb hrc
  go_wp2_with fail
  refine wp_region_still_tail 17 (by kernel_rfl) (by kernel_rfl) ?_
  simp only [List.take_succ_cons, List.take_zero, List.drop_succ_cons, List.drop_zero]
  change wpStill _ _ u.drew (fun a' => wpList _ _ _ _ a' u.drew) _ _
  have hgd : Chg Non u u.drew := (Chg.refl Non u).drew
  have HS7 := Lib.hid (HS6.out.non hgd)
  have HX7 := Lib.hid (blockN hgd HX6.out)
  have HO7 := Lib.hid (blockN hgd HOb.out)
  clear hgd o0 o1
  generalize u.drew = u7 at HS7 HX7 HO7 ⊢
  obtain ⟨⟨z, c0, c1, c2x, c3x, c4⟩, _⟩ := (Blk5.mk HX7.out).all
  have o0 : u7.cell? ⟨ob, 0, none⟩ = some (.func (.func 45) #[] #[]) := row_cell HO7.out rfl
  have hgb := HS7.out.pb.reg b2 hb8
  have hgc := HS7.out.pb.reg cc hc8
  rw [HRb.out] at hgb
  rw [HRc.out] at hgc
  have hga := HS7.out.pb.reg a ha8
  have hlt7 := HS7.out.pb.lt
  have hf7 := HS7.out.pb.frozen (3 + a)
  have hai : (a : Int) < 8 := by omega
  have hbi : (b2 : Int) < 8 := by omega
  have hci : (cc : Int) < 8 := by omega
  iterate 14 still_step
  still_call ((mk_mul rb rc u7 hrb32 hrc32).mono (fun e w' h => ⟨h.1, h.2.symm⟩))
  iterate 2 still_step
  refine wpStill_nil ?_
  obtain ⟨mv, hmv⟩ : ∃ mv, mk2 6 rb rc = mv := ⟨_, rfl⟩
  rw [hmv]
  have HMv := Lib.hid hmv
  clear hmv c0 c1 c2x c3x c4 o0
  have HS7b := Lib.hid (HS7.out.at (setAt u7 w.heap.size (3 + a) (.int .u32 (mv : Nat))) (HS7.out.pb.setReg a mv ha8) rfl)
  have HX7b := Lib.hid (blockS HX7.out (setAt u7 w.heap.size (3 + a) (.int .u32 (mv : Nat))) (show ¬ y2.heap.size = w.heap.size by omega))
  have hc11 : World.cell? _ ⟨w.heap.size, 11, none⟩ = some (.int .u32 (p.pc : Nat)) := HS7b.out.pb.cells.2.2.2.1
  have hlt7 := HS7b.out.pb.lt
  have hf7 := HS7b.out.pb.frozen 11
  have hx7 := row_cell (i := 0) HX7b.out rfl
  have hxne : y2.heap.size ≠ w.heap.size := by omega
  have HS8 := Lib.hid (HS7b.out.at (setAt _ w.heap.size 11 (.int .u32 (pv : Nat))) (HS7b.out.pb.setPc pv) rfl)
  have HX8 := Lib.hid (blockS HX7b.out (setAt _ w.heap.size 11 (.int .u32 (pv : Nat))) hxne)
  have hcl := nm_call 6 (by decide)
  obtain ⟨N, hN⟩ : ∃ N, (opAt 6).name = N := ⟨_, rfl⟩
  have HNm : Hid (∀ W, Calls Tryz.prog 17 #[.int .u8 6] W fun e w' => e = .returned (.string ⟨N.toArray⟩) ∧ Chg Non W w') := Lib.hid (fun W => by have h := Name_ok 6 W; rw [hN] at h; exact h)
  rw [hN, show decide (6 = 20) = false from rfl] at hcl
  clear hN
  go_wp2_with fail
  refine (HNm.out _).mono ?_
  rintro e w9 ⟨rfl, k9⟩
  have HS9 := Lib.hid (HS8.out.non k9)
  have HX9 := Lib.hid (blockN k9 HX8.out)
  clear k9 hc11 hlt7 hf7 hx7
  go_wp2_with (first
    | (refine sel (some 92) (.load _ (.tmp 1)) ?_; refine Vm_stop ?_))
  refine HoleV.mk ?_
  refine wpList_load_row rfl 26 (.tmp 1) rfl w.heap.size rfl 26 _ (0, 0) _ HS9.out.pb.out Tryz.underlying26 rfl (by rw [partC_size HS9.out.pb.len]; exact info_part) ?_
  go_wp2_with (first
    | (refine sel none (.store _ (.tmp 2) (.tmp 92)) ?_; refine Vm_stop ?_))
  refine HoleV.mk ?_
  refine wpList_store_rowA rfl 26 (.tmp 2) (.tmp 92) rfl (w.heap.size + 1) _ rfl rfl 26 zeroPart HS9.out.rb (by rw [partC_size HS9.out.pb.len]; exact info_part) (by rw [partC_size HS9.out.pb.len]; rfl) (partC_one _ _ rfl) ?_
  intro WR hgR hbR
  have HBR := Lib.hid hbR
  have HGR := Lib.hid hgR
  clear hbR hgR
  go_wp2_with fail
  refine bodyPost_ret (results_ctt Tryz.results9 _ _ (w.heap.size + 1) 26 _ (0, 0) _ (.int .i64 (-1)) (.int .i64 (0)) rfl rfl rfl HBR.out Tryz.underlying26 rfl (by rw [partC_size HS9.out.pb.len]; exact info_part)) rfl ?_
  exact ⟨_, _, by rw [HRb.out, HRc.out, HMv.out], HS9.out.h1, HS9.out.h2, (HS9.out.own.keep HGR.out (fun b o e1 e2 e3 e4 => by omega)).mono (by omega), HS9.out.chg.then_new HGR.out (fun x e => by omega)⟩
set_option maxRecDepth 100000 in
set_option maxHeartbeats 4000000 in
theorem step_mk7 (p : Pt) (A : Option Addr) (c : Nat) (w : World) (hb : p.Bd) (hr : Rd w A p.mem) (hl : p.mem.length ≤ 140737488355328) (hs : p.st = 0) (ht : there p.mem p.pc 4 = true) (f0 f1 f2 f3 : UInt8) (hcut : cut p.mem p.pc 4 = [f0, f1, f2, f3]) (op a b2 cc n : Nat) (hd : decI f0.toNat f1.toNat f2.toNat f3.toNat = ⟨op, a, b2, cc, (n : Nat)⟩) (hm : mayB ⟨op, a, b2, cc, (n : Nat)⟩ = true) (hj : jumpsB ⟨op, a, b2, cc, (n : Nat)⟩ p = false) (hop : op = 7) :
    Calls Tryz.prog 9 #[.agg (partC p (.slice A p.mem.length c))] w (RetStep w ({ p.set a (mk2 7 (p.g b2) (p.g cc)) with pc := (p.pc + 4) % 4294967296 }) (-1) (0)) := by
  obtain ⟨pv, hpv⟩ : ∃ pv, (p.pc + 4) % 4294967296 = pv := ⟨_, rfl⟩
  have hpcv : ((p.pc : Int) + 4) % 4294967296 = pv := by omega
  rw [hpv]
  clear hpv
  have HT := Lib.hid ht
  have HM := Lib.hid hm
  have HDc := Lib.hid hd
  have hx1 := may_bd hm
  have ho22 : op < 22 := hx1.1
  have ha8 : a < 8 := hx1.2.1
  have hb8 : b2 < 8 := hx1.2.2.1
  have hc8 : cc < 8 := hx1.2.2.2.1
  have hn16 : n < 65536 := hx1.2.2.2.2
  have HF4 : Hid (Four (f0.toNat, f1.toNat, f2.toNat, f3.toNat)) := Lib.hid ⟨f0.toNat_lt, f1.toNat_lt, f2.toNat_lt, f3.toNat_lt⟩
  clear ht hm hd hx1
  have HJ := Lib.hid hj
  have HOp := Lib.hid hop
  clear hj hop
  have h8 := hb.r8
  have HBd := Lib.hid hb
  obtain ⟨C, hC⟩ : ∃ C, partC p (.slice A p.mem.length c) = C := ⟨_, rfl⟩
  have hsz : C.size = 14 := by rw [← hC]; exact partC_size h8 _
  have hcp := fun W hrW => Copy_ok p A p.mem c W h8 hrW hl
  rw [hC] at hcp ⊢
  have HCp := Lib.hid hcp
  have HR := Lib.hid hr
  clear hcp hC hr hb
  go_enter Tryz.func9, Tryz.ntmps9
  go_wp2_with (first
    | (refine sel (some 8) (.load _ (.tmp 1)) ?_; refine Vm_stop ?_))
  refine HoleV.mk ?_
  refine wpList_load_row rfl 26 (.tmp 1) rfl w.heap.size rfl 26 C (0, 0) _ (al_2_0 w _ _) Tryz.underlying26 rfl (by rw [hsz]; exact info_part) ?_
  go_wp2_with fail
  refine (HCp.out _ (HR.out.non (((Chg.refl Non w).alloc _).alloc _))).mono ?_
  rintro e w1 ⟨A2, c2, rfl, q1, q2, q3, q4⟩
  have hbx := blockN q4 (al_2_0 w (.cells C 26) (.cells zeroPart 26))
  have HBy := Lib.hid (blockN q4 (al_2_1 w (.cells C 26) (.cells zeroPart 26)))
  have HO := Lib.hid (q3.mono (show w.heap.size + 2 ≤ _ by simp))
  have HG := Lib.hid ((((Chg.refl Non w).alloc _).alloc _).then_non q4)
  clear q3 q4
  go_wp2_with (first
    | (refine sel none (.store _ (.tmp 1) (.tmp 9)) ?_; refine Vm_stop ?_))
  refine HoleV.mk ?_
  refine wpList_store_rowA rfl 26 (.tmp 1) (.tmp 9) rfl w.heap.size (partC p (.slice A2 p.mem.length c2)) rfl rfl 26 C hbx (by rw [partC_size h8]; exact info_part) (by rw [partC_size h8, hsz]) (partC_one _ _ rfl) ?_
  intro w2 hg2 hb2
  have hst0 : StS w w2 p A2 c2 := ⟨⟨hb2, h8⟩, blockS HBy.out hg2 (by omega), HO.out.keep hg2 (fun b o e1 e2 e3 e4 => by omega), HG.out.then_new hg2 (fun x e => by omega), q1, q2⟩
  have HS := Lib.hid hst0
  have c12 := hst0.pb.cells.2.2.2.2.1
  clear hg2 hb2 hst0 hbx
  have c12' : w2.cell? ⟨w.heap.size, 12, none⟩ = some (.int .u8 0) := by rw [hs] at c12; exact c12
  have c11 := HS.out.pb.cells.2.2.2.1
  have c13 := HS.out.pb.cells.2.2.2.2.2
  have hwp : IntKind.i64.wrap (p.pc : Int) = p.pc := Go.IntWalk.i64_in _ (by have := HBd.out.pcb; omega)
  clear c12 hs
  go_wp2_with fail
  have hrd := Read_yes A2 p.mem c2 p.pc 4 w2 HS.out.own.rd q1 q2 (by omega) HT.out
  rw [hcut] at hrd
  refine hrd.mono ?_
  rintro e y1 ⟨A3, c3, rfl, k1, k2, k3, k4⟩
  obtain ⟨b3, o3, rfl, _, hc3⟩ := k3.rd.at_ (by simp)
  have d0 := hc3 0 (by simp)
  have d1 := hc3 1 (by simp)
  have d2 := hc3 2 (by simp)
  have d3 := hc3 3 (by simp)
  simp only [Nat.add_zero, List.getElem_cons_zero, List.getElem_cons_succ] at d0 d1 d2 d3
  have HS := Lib.hid (HS.out.non k4)
  have harr : ∀ W : World, (Instr.arrayAt 41 (.slice (some ⟨b3, o3, none⟩) 4 c3)).run Tryz.prog W = .ok (.pointer (some ⟨b3, o3, none⟩)) W := fun W => run_arrayAt W _ _ 4 _ 4 c3 Tryz.underlying41 (Nat.le_refl _)
  clear hc3 k3 k4 hrd c12' c11 c13
  go_wp2_with fail
  refine (Dec_v f0.toNat f1.toNat f2.toNat f3.toNat op a b2 cc n _ HF4.out HDc.out HM.out).mono ?_
  rintro e y2 ⟨rfl, k5⟩
  have HS := Lib.hid (HS.out.non k5)
  clear k5 d0 d1 d2 d3
  go_wp2_with fail
  have HS3 := Lib.hid (HS.out.non ((Chg.refl Non _).alloc (.cells #[.int .u8 op, .int .u8 a, .int .u8 b2, .int .u8 cc, .int .i64 (n : Nat)] 38)))
  have HX3 := Lib.hid (heap_alloc_new y2 (.cells #[.int .u8 op, .int .u8 a, .int .u8 b2, .int .u8 cc, .int .i64 (n : Nat)] 38))
  refine (jumps_ok w.heap.size p _ op a b2 cc n _ HS3.out.pb ho22 ha8).mono ?_
  rw [HJ.out]
  rintro e y3 ⟨rfl, k6⟩
  have hs4 := HS3.out.non k6
  have HS4 := Lib.hid hs4
  have HX4 := Lib.hid (blockN k6 HX3.out)
  obtain ⟨⟨z, c0, c1, c2x, c3x, c4⟩, _⟩ := (Blk5.mk HX4.out).all
  have hxb : w.heap.size + 2 ≤ y2.heap.size := by have h1 := (Array.getElem?_eq_some_iff.1 HS.out.rb).1; omega
  have c11 := hs4.pb.cells.2.2.2.1
  have hlt := hs4.pb.lt
  clear k6 hs4
  have hop := HOp.out
  subst hop
  clear z c1 c2x c3x c4 c11
  go_wp2_with fail
  apply wp_cutB (α := Nat) (f := fun ob x => ((((x.put (some 45) (.agg opsC)).put (some 46) (.pointer (some ⟨y2.heap.size, 0, none⟩))).put (some 47) (.int .u8 7)).put (some 48) (.agg #[.func (.func 46) #[] #[], .nilFunc])).put (some 7) (.pointer (some ⟨ob, 0, none⟩)))
    (R := fun ob v => v.heap[ob]? = some (.cells #[.func (.func 46) #[] #[], .nilFunc] 53 (0, 0)) ∧ Chg Non y3 v ∧ y3.heap.size ≤ ob)
  · refine wp_region_held_drew (S := fun W => Chg Non y3 W) (by kernel_rfl) ((Chg.refl Non _).drew) (fun hHeld => ?_)
    clear hHeld
    refine h_pure 1 (some 46) (.pointer (some ⟨y2.heap.size, 0, none⟩)) rfl (by kernel_rfl) (by kernel_rfl) (by kernel_rfl) (by kernel_rfl) (fun _ _ _ h => absurd h.1 (by simp)) (by kernel_rfl) (fun W hW => by go_simp) ((Chg.refl Non _).drew) ?_
    simp only [Act.put, List.setIfInBounds_toArray, List.set_cons_zero, List.set_cons_succ]
    refine h_pure 2 (some 47) (.int .u8 7) rfl (by kernel_rfl) (by kernel_rfl) (by kernel_rfl) (by kernel_rfl) (fun _ _ _ h => absurd h.1 (by simp)) (by kernel_rfl) (fun W hW => by have hc := hW.cell_some c0 (fun e => e); go_simp) ((Chg.refl Non _).drew) ?_
    simp only [Act.put, List.setIfInBounds_toArray, List.set_cons_zero, List.set_cons_succ]
    refine h_two 0 4 (by kernel_rfl) rfl rfl (by kernel_rfl) (by kernel_rfl) ?_ ?_
    · intro K hK
      go_simp
      refine (ops_ok _).mono ?_
      rintro e u1 ⟨rfl, hg1⟩
      have HU1 := Lib.hid (((Chg.refl Non y3).drew).then_non hg1)
      have hsz := HU1.out.size
      clear hg1
      refine hK.out _ _ HU1.out (fun _ => ?_)
      clear hK K
      refine h_pure 3 (some 48) (.agg #[.func (.func 46) #[] #[], .nilFunc]) rfl (by kernel_rfl) (by kernel_rfl) (by kernel_rfl) (by kernel_rfl) (fun _ _ _ h => absurd h.1 (by simp)) (by kernel_rfl) (fun W hW => by kernel_rfl) HU1.out ?_
      simp only [Act.put, List.setIfInBounds_toArray, List.set_cons_zero, List.set_cons_succ]
      refine h_one 4 (by kernel_rfl) rfl (by kernel_rfl) ?_
      intro K hK
      go_simp
      refine hK.out _ _ (HU1.out.alloc _) (fun _ => ?_)
      clear hK K
      refine h_store 5 53 (.tmp 7) (.tmp 48) u1.heap.size #[.func (.func 46) #[] #[], .nilFunc] (by kernel_rfl) rfl (by kernel_rfl) rfl rfl rfl rfl 53 ⟨#[.nilFunc, .nilFunc], heap_alloc_new _ _, rfl⟩ info_vop (by simp [Value.oneCell']) (fun W hg hb => (HU1.out.alloc _).then_new hg (fun x e => by have := e; omega)) ?_
      intro W hgW hbW
      refine wpAnyH_done (by kernel_rfl) ?_ _
      exact ⟨rfl, u1.heap.size, by kernel_rfl, hbW, (HU1.out.alloc _).then_new hgW (fun x e => by have := e; omega), by omega⟩
    · intro K hK
      go_simp
      refine hK.out _ _ (((Chg.refl Non y3).drew).alloc _) (fun _ => ?_)
      clear hK K
      refine h_one 0 (by kernel_rfl) rfl (by kernel_rfl) ?_
      intro K hK
      go_simp
      refine (ops_ok _).mono ?_
      rintro e u1 ⟨rfl, hg1⟩
      have HU1 := Lib.hid ((((Chg.refl Non y3).drew).alloc _).then_non hg1)
      have HB1 := Lib.hid (blockN hg1 (heap_alloc_new y3.drew _))
      have hyd : y3.drew.heap.size = y3.heap.size := rfl
      clear hg1
      refine hK.out _ _ HU1.out (fun _ => ?_)
      clear hK K
      refine h_pure 3 (some 48) (.agg #[.func (.func 46) #[] #[], .nilFunc]) rfl (by kernel_rfl) (by kernel_rfl) (by kernel_rfl) (by kernel_rfl) (fun _ _ _ h => absurd h.1 (by simp)) (by kernel_rfl) (fun W hW => by kernel_rfl) HU1.out ?_
      simp only [Act.put, List.setIfInBounds_toArray, List.set_cons_zero, List.set_cons_succ]
      refine h_store 5 53 (.tmp 7) (.tmp 48) y3.heap.size #[.func (.func 46) #[] #[], .nilFunc] (by kernel_rfl) rfl (by kernel_rfl) rfl rfl rfl rfl 53 ⟨#[.nilFunc, .nilFunc], HB1.out, rfl⟩ info_vop (by simp [Value.oneCell']) (fun W hg hb => HU1.out.then_new hg (fun x e => by have := e; omega)) ?_
      intro W hgW hbW
      refine wpAnyH_done (by kernel_rfl) ?_ _
      exact ⟨rfl, y3.heap.size, by kernel_rfl, hbW, HU1.out.then_new hgW (fun x e => by have := e; omega), by omega⟩
  rintro ob u ⟨hob, hgu, hle⟩
  simp only [Act.put, List.setIfInBounds_toArray, List.set_cons_zero, List.set_cons_succ]
  have HS6 := Lib.hid (HS4.out.non hgu)
  have HX6 := Lib.hid (blockN hgu HX4.out)
  have HOb := Lib.hid hob
  have o0 : u.cell? ⟨ob, 0, none⟩ = some (.func (.func 46) #[] #[]) := row_cell hob rfl
  have o1 : u.cell? ⟨ob, 1, none⟩ = some (.nilFunc) := row_cell hob rfl
  have hobx : w.heap.size + 2 ≤ ob := by have h1 := (Array.getElem?_eq_some_iff.1 HS4.out.rb).1; omega
  clear hob hgu c0
  have hne1 := fn_ne 46
  obtain ⟨rb, hrb⟩ : ∃ rb, p.g b2 = rb := ⟨_, rfl⟩
  obtain ⟨rc, hrc⟩ : ∃ rc, p.g cc = rc := ⟨_, rfl⟩
  have hrb32 : rb < 4294967296 := by rw [← hrb]; exact HBd.out.rb b2
  have hrc32 : rc < 4294967296 := by rw [← hrc]; exact HBd.out.rb cc
  rw [hrb, hrc]
  have HRb := Lib.hid hrb
  have HRc := Lib.hid hrc
  clear hrb hrc
  go_wp2_with fail
  refine wp_region_still_tail 17 (by kernel_rfl) (by kernel_rfl) ?_
  simp only [List.take_succ_cons, List.take_zero, List.drop_succ_cons, List.drop_zero]
  change wpStill _ _ u.drew (fun a' => wpList _ _ _ _ a' u.drew) _ _
  have hgd : Chg Non u u.drew := (Chg.refl Non u).drew
  have HS7 := Lib.hid (HS6.out.non hgd)
  have HX7 := Lib.hid (blockN hgd HX6.out)
  have HO7 := Lib.hid (blockN hgd HOb.out)
  clear hgd o0 o1
  generalize u.drew = u7 at HS7 HX7 HO7 ⊢
  obtain ⟨⟨z, c0, c1, c2x, c3x, c4⟩, _⟩ := (Blk5.mk HX7.out).all
  have o0 : u7.cell? ⟨ob, 0, none⟩ = some (.func (.func 46) #[] #[]) := row_cell HO7.out rfl
  have hgb := HS7.out.pb.reg b2 hb8
  have hgc := HS7.out.pb.reg cc hc8
  rw [HRb.out] at hgb
  rw [HRc.out] at hgc
  have hga := HS7.out.pb.reg a ha8
  have hlt7 := HS7.out.pb.lt
  have hf7 := HS7.out.pb.frozen (3 + a)
  have hai : (a : Int) < 8 := by omega
  have hbi : (b2 : Int) < 8 := by omega
  have hci : (cc : Int) < 8 := by omega
  iterate 14 still_step
  still_call ((mk_and rb rc u7 hrb32 hrc32).mono (fun e w' h => ⟨h.1, h.2.symm⟩))
  iterate 2 still_step
  refine wpStill_nil ?_
  obtain ⟨mv, hmv⟩ : ∃ mv, mk2 7 rb rc = mv := ⟨_, rfl⟩
  rw [hmv]
  have HMv := Lib.hid hmv
  clear hmv c0 c1 c2x c3x c4 o0
  have HS7b := Lib.hid (HS7.out.at (setAt u7 w.heap.size (3 + a) (.int .u32 (mv : Nat))) (HS7.out.pb.setReg a mv ha8) rfl)
  have HX7b := Lib.hid (blockS HX7.out (setAt u7 w.heap.size (3 + a) (.int .u32 (mv : Nat))) (show ¬ y2.heap.size = w.heap.size by omega))
  have hc11 : World.cell? _ ⟨w.heap.size, 11, none⟩ = some (.int .u32 (p.pc : Nat)) := HS7b.out.pb.cells.2.2.2.1
  have hlt7 := HS7b.out.pb.lt
  have hf7 := HS7b.out.pb.frozen 11
  have hx7 := row_cell (i := 0) HX7b.out rfl
  have hxne : y2.heap.size ≠ w.heap.size := by omega
  have HS8 := Lib.hid (HS7b.out.at (setAt _ w.heap.size 11 (.int .u32 (pv : Nat))) (HS7b.out.pb.setPc pv) rfl)
  have HX8 := Lib.hid (blockS HX7b.out (setAt _ w.heap.size 11 (.int .u32 (pv : Nat))) hxne)
  have hcl := nm_call 7 (by decide)
  obtain ⟨N, hN⟩ : ∃ N, (opAt 7).name = N := ⟨_, rfl⟩
  have HNm : Hid (∀ W, Calls Tryz.prog 17 #[.int .u8 7] W fun e w' => e = .returned (.string ⟨N.toArray⟩) ∧ Chg Non W w') := Lib.hid (fun W => by have h := Name_ok 7 W; rw [hN] at h; exact h)
  rw [hN, show decide (7 = 20) = false from rfl] at hcl
  clear hN
  go_wp2_with fail
  refine (HNm.out _).mono ?_
  rintro e w9 ⟨rfl, k9⟩
  have HS9 := Lib.hid (HS8.out.non k9)
  have HX9 := Lib.hid (blockN k9 HX8.out)
  clear k9 hc11 hlt7 hf7 hx7
  go_wp2_with (first
    | (refine sel (some 92) (.load _ (.tmp 1)) ?_; refine Vm_stop ?_))
  refine HoleV.mk ?_
  refine wpList_load_row rfl 26 (.tmp 1) rfl w.heap.size rfl 26 _ (0, 0) _ HS9.out.pb.out Tryz.underlying26 rfl (by rw [partC_size HS9.out.pb.len]; exact info_part) ?_
  go_wp2_with (first
    | (refine sel none (.store _ (.tmp 2) (.tmp 92)) ?_; refine Vm_stop ?_))
  refine HoleV.mk ?_
  refine wpList_store_rowA rfl 26 (.tmp 2) (.tmp 92) rfl (w.heap.size + 1) _ rfl rfl 26 zeroPart HS9.out.rb (by rw [partC_size HS9.out.pb.len]; exact info_part) (by rw [partC_size HS9.out.pb.len]; rfl) (partC_one _ _ rfl) ?_
  intro WR hgR hbR
  have HBR := Lib.hid hbR
  have HGR := Lib.hid hgR
  clear hbR hgR
  go_wp2_with fail
  refine bodyPost_ret (results_ctt Tryz.results9 _ _ (w.heap.size + 1) 26 _ (0, 0) _ (.int .i64 (-1)) (.int .i64 (0)) rfl rfl rfl HBR.out Tryz.underlying26 rfl (by rw [partC_size HS9.out.pb.len]; exact info_part)) rfl ?_
  exact ⟨_, _, by rw [HRb.out, HRc.out, HMv.out], HS9.out.h1, HS9.out.h2, (HS9.out.own.keep HGR.out (fun b o e1 e2 e3 e4 => by omega)).mono (by omega), HS9.out.chg.then_new HGR.out (fun x e => by omega)⟩
set_option maxRecDepth 100000 in
set_option maxHeartbeats 4000000 in
theorem step_mk8 (p : Pt) (A : Option Addr) (c : Nat) (w : World) (hb : p.Bd) (hr : Rd w A p.mem) (hl : p.mem.length ≤ 140737488355328) (hs : p.st = 0) (ht : there p.mem p.pc 4 = true) (f0 f1 f2 f3 : UInt8) (hcut : cut p.mem p.pc 4 = [f0, f1, f2, f3]) (op a b2 cc n : Nat) (hd : decI f0.toNat f1.toNat f2.toNat f3.toNat = ⟨op, a, b2, cc, (n : Nat)⟩) (hm : mayB ⟨op, a, b2, cc, (n : Nat)⟩ = true) (hj : jumpsB ⟨op, a, b2, cc, (n : Nat)⟩ p = false) (hop : op = 8) :
    Calls Tryz.prog 9 #[.agg (partC p (.slice A p.mem.length c))] w (RetStep w ({ p.set a (mk2 8 (p.g b2) (p.g cc)) with pc := (p.pc + 4) % 4294967296 }) (-1) (0)) := by
  obtain ⟨pv, hpv⟩ : ∃ pv, (p.pc + 4) % 4294967296 = pv := ⟨_, rfl⟩
  have hpcv : ((p.pc : Int) + 4) % 4294967296 = pv := by omega
  rw [hpv]
  clear hpv
  have HT := Lib.hid ht
  have HM := Lib.hid hm
  have HDc := Lib.hid hd
  have hx1 := may_bd hm
  have ho22 : op < 22 := hx1.1
  have ha8 : a < 8 := hx1.2.1
  have hb8 : b2 < 8 := hx1.2.2.1
  have hc8 : cc < 8 := hx1.2.2.2.1
  have hn16 : n < 65536 := hx1.2.2.2.2
  have HF4 : Hid (Four (f0.toNat, f1.toNat, f2.toNat, f3.toNat)) := Lib.hid ⟨f0.toNat_lt, f1.toNat_lt, f2.toNat_lt, f3.toNat_lt⟩
  clear ht hm hd hx1
  have HJ := Lib.hid hj
  have HOp := Lib.hid hop
  clear hj hop
  have h8 := hb.r8
  have HBd := Lib.hid hb
  obtain ⟨C, hC⟩ : ∃ C, partC p (.slice A p.mem.length c) = C := ⟨_, rfl⟩
  have hsz : C.size = 14 := by rw [← hC]; exact partC_size h8 _
  have hcp := fun W hrW => Copy_ok p A p.mem c W h8 hrW hl
  rw [hC] at hcp ⊢
  have HCp := Lib.hid hcp
  have HR := Lib.hid hr
  clear hcp hC hr hb
  go_enter Tryz.func9, Tryz.ntmps9
  go_wp2_with (first
    | (refine sel (some 8) (.load _ (.tmp 1)) ?_; refine Vm_stop ?_))
  refine HoleV.mk ?_
  refine wpList_load_row rfl 26 (.tmp 1) rfl w.heap.size rfl 26 C (0, 0) _ (al_2_0 w _ _) Tryz.underlying26 rfl (by rw [hsz]; exact info_part) ?_
  go_wp2_with fail
  refine (HCp.out _ (HR.out.non (((Chg.refl Non w).alloc _).alloc _))).mono ?_
  rintro e w1 ⟨A2, c2, rfl, q1, q2, q3, q4⟩
  have hbx := blockN q4 (al_2_0 w (.cells C 26) (.cells zeroPart 26))
  have HBy := Lib.hid (blockN q4 (al_2_1 w (.cells C 26) (.cells zeroPart 26)))
  have HO := Lib.hid (q3.mono (show w.heap.size + 2 ≤ _ by simp))
  have HG := Lib.hid ((((Chg.refl Non w).alloc _).alloc _).then_non q4)
  clear q3 q4
  go_wp2_with (first
    | (refine sel none (.store _ (.tmp 1) (.tmp 9)) ?_; refine Vm_stop ?_))
  refine HoleV.mk ?_
  refine wpList_store_rowA rfl 26 (.tmp 1) (.tmp 9) rfl w.heap.size (partC p (.slice A2 p.mem.length c2)) rfl rfl 26 C hbx (by rw [partC_size h8]; exact info_part) (by rw [partC_size h8, hsz]) (partC_one _ _ rfl) ?_
  intro w2 hg2 hb2
  have hst0 : StS w w2 p A2 c2 := ⟨⟨hb2, h8⟩, blockS HBy.out hg2 (by omega), HO.out.keep hg2 (fun b o e1 e2 e3 e4 => by omega), HG.out.then_new hg2 (fun x e => by omega), q1, q2⟩
  have HS := Lib.hid hst0
  have c12 := hst0.pb.cells.2.2.2.2.1
  clear hg2 hb2 hst0 hbx
  have c12' : w2.cell? ⟨w.heap.size, 12, none⟩ = some (.int .u8 0) := by rw [hs] at c12; exact c12
  have c11 := HS.out.pb.cells.2.2.2.1
  have c13 := HS.out.pb.cells.2.2.2.2.2
  have hwp : IntKind.i64.wrap (p.pc : Int) = p.pc := Go.IntWalk.i64_in _ (by have := HBd.out.pcb; omega)
  clear c12 hs
  go_wp2_with fail
  have hrd := Read_yes A2 p.mem c2 p.pc 4 w2 HS.out.own.rd q1 q2 (by omega) HT.out
  rw [hcut] at hrd
  refine hrd.mono ?_
  rintro e y1 ⟨A3, c3, rfl, k1, k2, k3, k4⟩
  obtain ⟨b3, o3, rfl, _, hc3⟩ := k3.rd.at_ (by simp)
  have d0 := hc3 0 (by simp)
  have d1 := hc3 1 (by simp)
  have d2 := hc3 2 (by simp)
  have d3 := hc3 3 (by simp)
  simp only [Nat.add_zero, List.getElem_cons_zero, List.getElem_cons_succ] at d0 d1 d2 d3
  have HS := Lib.hid (HS.out.non k4)
  have harr : ∀ W : World, (Instr.arrayAt 41 (.slice (some ⟨b3, o3, none⟩) 4 c3)).run Tryz.prog W = .ok (.pointer (some ⟨b3, o3, none⟩)) W := fun W => run_arrayAt W _ _ 4 _ 4 c3 Tryz.underlying41 (Nat.le_refl _)
  clear hc3 k3 k4 hrd c12' c11 c13
  go_wp2_with fail
  refine (Dec_v f0.toNat f1.toNat f2.toNat f3.toNat op a b2 cc n _ HF4.out HDc.out HM.out).mono ?_
  rintro e y2 ⟨rfl, k5⟩
  have HS := Lib.hid (HS.out.non k5)
  clear k5 d0 d1 d2 d3
  go_wp2_with fail
  have HS3 := Lib.hid (HS.out.non ((Chg.refl Non _).alloc (.cells #[.int .u8 op, .int .u8 a, .int .u8 b2, .int .u8 cc, .int .i64 (n : Nat)] 38)))
  have HX3 := Lib.hid (heap_alloc_new y2 (.cells #[.int .u8 op, .int .u8 a, .int .u8 b2, .int .u8 cc, .int .i64 (n : Nat)] 38))
  refine (jumps_ok w.heap.size p _ op a b2 cc n _ HS3.out.pb ho22 ha8).mono ?_
  rw [HJ.out]
  rintro e y3 ⟨rfl, k6⟩
  have hs4 := HS3.out.non k6
  have HS4 := Lib.hid hs4
  have HX4 := Lib.hid (blockN k6 HX3.out)
  obtain ⟨⟨z, c0, c1, c2x, c3x, c4⟩, _⟩ := (Blk5.mk HX4.out).all
  have hxb : w.heap.size + 2 ≤ y2.heap.size := by have h1 := (Array.getElem?_eq_some_iff.1 HS.out.rb).1; omega
  have c11 := hs4.pb.cells.2.2.2.1
  have hlt := hs4.pb.lt
  clear k6 hs4
  have hop := HOp.out
  subst hop
  clear z c1 c2x c3x c4 c11
  go_wp2_with fail
  apply wp_cutB (α := Nat) (f := fun ob x => ((((x.put (some 45) (.agg opsC)).put (some 46) (.pointer (some ⟨y2.heap.size, 0, none⟩))).put (some 47) (.int .u8 8)).put (some 48) (.agg #[.func (.func 47) #[] #[], .nilFunc])).put (some 7) (.pointer (some ⟨ob, 0, none⟩)))
    (R := fun ob v => v.heap[ob]? = some (.cells #[.func (.func 47) #[] #[], .nilFunc] 53 (0, 0)) ∧ Chg Non y3 v ∧ y3.heap.size ≤ ob)
  · refine wp_region_held_drew (S := fun W => Chg Non y3 W) (by kernel_rfl) ((Chg.refl Non _).drew) (fun hHeld => ?_)
    clear hHeld
    refine h_pure 1 (some 46) (.pointer (some ⟨y2.heap.size, 0, none⟩)) rfl (by kernel_rfl) (by kernel_rfl) (by kernel_rfl) (by kernel_rfl) (fun _ _ _ h => absurd h.1 (by simp)) (by kernel_rfl) (fun W hW => by go_simp) ((Chg.refl Non _).drew) ?_
    simp only [Act.put, List.setIfInBounds_toArray, List.set_cons_zero, List.set_cons_succ]
    refine h_pure 2 (some 47) (.int .u8 8) rfl (by kernel_rfl) (by kernel_rfl) (by kernel_rfl) (by kernel_rfl) (fun _ _ _ h => absurd h.1 (by simp)) (by kernel_rfl) (fun W hW => by have hc := hW.cell_some c0 (fun e => e); go_simp) ((Chg.refl Non _).drew) ?_
    simp only [Act.put, List.setIfInBounds_toArray, List.set_cons_zero, List.set_cons_succ]
    refine h_two 0 4 (by kernel_rfl) rfl rfl (by kernel_rfl) (by kernel_rfl) ?_ ?_
    · intro K hK
      go_simp
      refine (ops_ok _).mono ?_
      rintro e u1 ⟨rfl, hg1⟩
      have HU1 := Lib.hid (((Chg.refl Non y3).drew).then_non hg1)
      have hsz := HU1.out.size
      clear hg1
      refine hK.out _ _ HU1.out (fun _ => ?_)
      clear hK K
      refine h_pure 3 (some 48) (.agg #[.func (.func 47) #[] #[], .nilFunc]) rfl (by kernel_rfl) (by kernel_rfl) (by kernel_rfl) (by kernel_rfl) (fun _ _ _ h => absurd h.1 (by simp)) (by kernel_rfl) (fun W hW => by kernel_rfl) HU1.out ?_
      simp only [Act.put, List.setIfInBounds_toArray, List.set_cons_zero, List.set_cons_succ]
      refine h_one 4 (by kernel_rfl) rfl (by kernel_rfl) ?_
      intro K hK
      go_simp
      refine hK.out _ _ (HU1.out.alloc _) (fun _ => ?_)
      clear hK K
      refine h_store 5 53 (.tmp 7) (.tmp 48) u1.heap.size #[.func (.func 47) #[] #[], .nilFunc] (by kernel_rfl) rfl (by kernel_rfl) rfl rfl rfl rfl 53 ⟨#[.nilFunc, .nilFunc], heap_alloc_new _ _, rfl⟩ info_vop (by simp [Value.oneCell']) (fun W hg hb => (HU1.out.alloc _).then_new hg (fun x e => by have := e; omega)) ?_
      intro W hgW hbW
      refine wpAnyH_done (by kernel_rfl) ?_ _
      exact ⟨rfl, u1.heap.size, by kernel_rfl, hbW, (HU1.out.alloc _).then_new hgW (fun x e => by have := e; omega), by omega⟩
    · intro K hK
      go_simp
      refine hK.out _ _ (((Chg.refl Non y3).drew).alloc _) (fun _ => ?_)
      clear hK K
      refine h_one 0 (by kernel_rfl) rfl (by kernel_rfl) ?_
      intro K hK
      go_simp
      refine (ops_ok _).mono ?_
      rintro e u1 ⟨rfl, hg1⟩
      have HU1 := Lib.hid ((((Chg.refl Non y3).drew).alloc _).then_non hg1)
      have HB1 := Lib.hid (blockN hg1 (heap_alloc_new y3.drew _))
      have hyd : y3.drew.heap.size = y3.heap.size := rfl
      clear hg1
      refine hK.out _ _ HU1.out (fun _ => ?_)
      clear hK K
      refine h_pure 3 (some 48) (.agg #[.func (.func 47) #[] #[], .nilFunc]) rfl (by kernel_rfl) (by kernel_rfl) (by kernel_rfl) (by kernel_rfl) (fun _ _ _ h => absurd h.1 (by simp)) (by kernel_rfl) (fun W hW => by kernel_rfl) HU1.out ?_
      simp only [Act.put, List.setIfInBounds_toArray, List.set_cons_zero, List.set_cons_succ]
      refine h_store 5 53 (.tmp 7) (.tmp 48) y3.heap.size #[.func (.func 47) #[] #[], .nilFunc] (by kernel_rfl) rfl (by kernel_rfl) rfl rfl rfl rfl 53 ⟨#[.nilFunc, .nilFunc], HB1.out, rfl⟩ info_vop (by simp [Value.oneCell']) (fun W hg hb => HU1.out.then_new hg (fun x e => by have := e; omega)) ?_
      intro W hgW hbW
      refine wpAnyH_done (by kernel_rfl) ?_ _
      exact ⟨rfl, y3.heap.size, by kernel_rfl, hbW, HU1.out.then_new hgW (fun x e => by have := e; omega), by omega⟩
  rintro ob u ⟨hob, hgu, hle⟩
  simp only [Act.put, List.setIfInBounds_toArray, List.set_cons_zero, List.set_cons_succ]
  have HS6 := Lib.hid (HS4.out.non hgu)
  have HX6 := Lib.hid (blockN hgu HX4.out)
  have HOb := Lib.hid hob
  have o0 : u.cell? ⟨ob, 0, none⟩ = some (.func (.func 47) #[] #[]) := row_cell hob rfl
  have o1 : u.cell? ⟨ob, 1, none⟩ = some (.nilFunc) := row_cell hob rfl
  have hobx : w.heap.size + 2 ≤ ob := by have h1 := (Array.getElem?_eq_some_iff.1 HS4.out.rb).1; omega
  clear hob hgu c0
  have hne1 := fn_ne 47
  obtain ⟨rb, hrb⟩ : ∃ rb, p.g b2 = rb := ⟨_, rfl⟩
  obtain ⟨rc, hrc⟩ : ∃ rc, p.g cc = rc := ⟨_, rfl⟩
  have hrb32 : rb < 4294967296 := by rw [← hrb]; exact HBd.out.rb b2
  have hrc32 : rc < 4294967296 := by rw [← hrc]; exact HBd.out.rb cc
  rw [hrb, hrc]
  have HRb := Lib.hid hrb
  have HRc := Lib.hid hrc
  clear hrb hrc
  go_wp2_with fail
  refine wp_region_still_tail 17 (by kernel_rfl) (by kernel_rfl) ?_
  simp only [List.take_succ_cons, List.take_zero, List.drop_succ_cons, List.drop_zero]
  change wpStill _ _ u.drew (fun a' => wpList _ _ _ _ a' u.drew) _ _
  have hgd : Chg Non u u.drew := (Chg.refl Non u).drew
  have HS7 := Lib.hid (HS6.out.non hgd)
  have HX7 := Lib.hid (blockN hgd HX6.out)
  have HO7 := Lib.hid (blockN hgd HOb.out)
  clear hgd o0 o1
  generalize u.drew = u7 at HS7 HX7 HO7 ⊢
  obtain ⟨⟨z, c0, c1, c2x, c3x, c4⟩, _⟩ := (Blk5.mk HX7.out).all
  have o0 : u7.cell? ⟨ob, 0, none⟩ = some (.func (.func 47) #[] #[]) := row_cell HO7.out rfl
  have hgb := HS7.out.pb.reg b2 hb8
  have hgc := HS7.out.pb.reg cc hc8
  rw [HRb.out] at hgb
  rw [HRc.out] at hgc
  have hga := HS7.out.pb.reg a ha8
  have hlt7 := HS7.out.pb.lt
  have hf7 := HS7.out.pb.frozen (3 + a)
  have hai : (a : Int) < 8 := by omega
  have hbi : (b2 : Int) < 8 := by omega
  have hci : (cc : Int) < 8 := by omega
  iterate 14 still_step
  still_call ((mk_or rb rc u7 hrb32 hrc32).mono (fun e w' h => ⟨h.1, h.2.symm⟩))
  iterate 2 still_step
  refine wpStill_nil ?_
  obtain ⟨mv, hmv⟩ : ∃ mv, mk2 8 rb rc = mv := ⟨_, rfl⟩
  rw [hmv]
  have HMv := Lib.hid hmv
  clear hmv c0 c1 c2x c3x c4 o0
  have HS7b := Lib.hid (HS7.out.at (setAt u7 w.heap.size (3 + a) (.int .u32 (mv : Nat))) (HS7.out.pb.setReg a mv ha8) rfl)
  have HX7b := Lib.hid (blockS HX7.out (setAt u7 w.heap.size (3 + a) (.int .u32 (mv : Nat))) (show ¬ y2.heap.size = w.heap.size by omega))
  have hc11 : World.cell? _ ⟨w.heap.size, 11, none⟩ = some (.int .u32 (p.pc : Nat)) := HS7b.out.pb.cells.2.2.2.1
  have hlt7 := HS7b.out.pb.lt
  have hf7 := HS7b.out.pb.frozen 11
  have hx7 := row_cell (i := 0) HX7b.out rfl
  have hxne : y2.heap.size ≠ w.heap.size := by omega
  have HS8 := Lib.hid (HS7b.out.at (setAt _ w.heap.size 11 (.int .u32 (pv : Nat))) (HS7b.out.pb.setPc pv) rfl)
  have HX8 := Lib.hid (blockS HX7b.out (setAt _ w.heap.size 11 (.int .u32 (pv : Nat))) hxne)
  have hcl := nm_call 8 (by decide)
  obtain ⟨N, hN⟩ : ∃ N, (opAt 8).name = N := ⟨_, rfl⟩
  have HNm : Hid (∀ W, Calls Tryz.prog 17 #[.int .u8 8] W fun e w' => e = .returned (.string ⟨N.toArray⟩) ∧ Chg Non W w') := Lib.hid (fun W => by have h := Name_ok 8 W; rw [hN] at h; exact h)
  rw [hN, show decide (8 = 20) = false from rfl] at hcl
  clear hN
  go_wp2_with fail
  refine (HNm.out _).mono ?_
  rintro e w9 ⟨rfl, k9⟩
  have HS9 := Lib.hid (HS8.out.non k9)
  have HX9 := Lib.hid (blockN k9 HX8.out)
  clear k9 hc11 hlt7 hf7 hx7
  go_wp2_with (first
    | (refine sel (some 92) (.load _ (.tmp 1)) ?_; refine Vm_stop ?_))
  refine HoleV.mk ?_
  refine wpList_load_row rfl 26 (.tmp 1) rfl w.heap.size rfl 26 _ (0, 0) _ HS9.out.pb.out Tryz.underlying26 rfl (by rw [partC_size HS9.out.pb.len]; exact info_part) ?_
  go_wp2_with (first
    | (refine sel none (.store _ (.tmp 2) (.tmp 92)) ?_; refine Vm_stop ?_))
  refine HoleV.mk ?_
  refine wpList_store_rowA rfl 26 (.tmp 2) (.tmp 92) rfl (w.heap.size + 1) _ rfl rfl 26 zeroPart HS9.out.rb (by rw [partC_size HS9.out.pb.len]; exact info_part) (by rw [partC_size HS9.out.pb.len]; rfl) (partC_one _ _ rfl) ?_
  intro WR hgR hbR
  have HBR := Lib.hid hbR
  have HGR := Lib.hid hgR
  clear hbR hgR
  go_wp2_with fail
  refine bodyPost_ret (results_ctt Tryz.results9 _ _ (w.heap.size + 1) 26 _ (0, 0) _ (.int .i64 (-1)) (.int .i64 (0)) rfl rfl rfl HBR.out Tryz.underlying26 rfl (by rw [partC_size HS9.out.pb.len]; exact info_part)) rfl ?_
  exact ⟨_, _, by rw [HRb.out, HRc.out, HMv.out], HS9.out.h1, HS9.out.h2, (HS9.out.own.keep HGR.out (fun b o e1 e2 e3 e4 => by omega)).mono (by omega), HS9.out.chg.then_new HGR.out (fun x e => by omega)⟩
end Go.Proofs.YtpcmnphohneddaaGreatDoor
