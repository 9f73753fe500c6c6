/- KernelApart, part 17 of 27: contracts of the functions that it reaches, and the laws that they need, merged and shortened (from my texts XVmO, XVmR, XVmS, XKerN, XPhys). -/
import Derived.Test.YtmnaleaghfbclaaGreatDoorMgKernelApartA
import Derived.Test.YtmnaleaghfbclaaGreatDoorMgKernelApartG
import Derived.Test.YtmnaleaghfbclaaGreatDoorMgKernelApartI
import Derived.Test.YtmnaleaghfbclaaGreatDoorMgKernelApartO
import Derived.Test.YtmnaleaghfbclaaGreatDoorMgKernelApartP
import Derived.StillTailTactics
namespace Go.Proofs.YtmnaleaghfbclaaGreatDoor
set_option linter.unusedVariables false
set_option linter.unusedSimpArgs false
set_option maxHeartbeats 8000000
section
open Go.RowKit
set_option maxRecDepth 100000 in
theorem step_nofetch (p : Pt) (A : Option Addr) (c : Nat) (w : World) (hb : p.Bd) (hr : Rd w A p.mem) (hl : p.mem.length ≤ 140737488355328) (hs : p.st = 0) (ht : there p.mem p.pc 4 = false) :
  Calls Tryz.prog 230 #[.agg (partC p (.slice A p.mem.length c))] w (RetStep w ({ p with st := 3 }) (-1) (0)) := by
 have HT := Lib.hid ht
 clear ht
 have h8 := hb.r8
 have HBd := Lib.hid hb
 obtain ⟨C, hC⟩ : ∃ C, partC p (.slice A p.mem.length c) = C := ⟨_, rfl⟩
 have hsz : C.size = 14 := by rw [← hC]; exact partC_size h8 _
 have hcp := fun W hrW => Copy_ok p A p.mem c W h8 hrW hl
 rw [hC] at hcp ⊢
 have HCp := Lib.hid hcp
 have HR := Lib.hid hr
 clear hcp hC hr hb
 go_enter Tryz.func230, Tryz.ntmps230
 go_wp2_with (first
   | (refine sel (some 8) (.load _ (.tmp 1)) ?_; refine Vm_stop ?_))
 refine HoleV.mk ?_
 refine wpList_load_row rfl 69 (.tmp 1) rfl w.heap.size rfl 69 C (0, 0) _ (al_2_0 w _ _) Tryz.underlying69 rfl (by rw [hsz]; exact info_part) ?_
 go_wp2_with fail
 refine (HCp.out _ (HR.out.non (((Chg.refl Non w).alloc _).alloc _))).mono ?_
 rintro e w1 ⟨A2, c2, rfl, q1, q2, q3, q4⟩
 have hbx := blockN q4 (al_2_0 w (.cells C 69) (.cells zeroPart 69))
 have HBy := Lib.hid (blockN q4 (al_2_1 w (.cells C 69) (.cells zeroPart 69)))
 have HO := Lib.hid (q3.mono (show w.heap.size + 2 ≤ _ by simp))
 have HG := Lib.hid ((((Chg.refl Non w).alloc _).alloc _).then_non q4)
 clear q3 q4
 go_wp2_with (first
   | (refine sel none (.store _ (.tmp 1) (.tmp 9)) ?_; refine Vm_stop ?_))
 refine HoleV.mk ?_
 refine wpList_store_rowA rfl 69 (.tmp 1) (.tmp 9) rfl w.heap.size (partC p (.slice A2 p.mem.length c2)) rfl rfl 69 C hbx (by rw [partC_size h8]; exact info_part) (by rw [partC_size h8, hsz]) (partC_one _ _ rfl) ?_
 intro w2 hg2 hb2
 have hst0 : StS w w2 p A2 c2 := ⟨⟨hb2, h8⟩, blockS HBy.out hg2 (by omega), HO.out.keep hg2 (fun b o e1 e2 e3 e4 => by omega), HG.out.then_new hg2 (fun x e => by omega), q1, q2⟩
 have HS := Lib.hid hst0
 have c12 := hst0.pb.cells.2.2.2.2.1
 clear hg2 hb2 hst0 hbx
 have c12' : w2.cell? ⟨w.heap.size, 12, none⟩ = some (.int .u8 0) := by rw [hs] at c12; exact c12
 have c11 := HS.out.pb.cells.2.2.2.1
 have c13 := HS.out.pb.cells.2.2.2.2.2
 have hwp : IntKind.i64.wrap (p.pc : Int) = p.pc := Go.IntWalk.i64_in _ (by have := HBd.out.pcb; omega)
 clear c12 hs
 go_wp2_with fail
 refine (Read_no A2 p.mem c2 p.pc 4 _ (by have := HBd.out.pcb; omega) (by omega) HT.out).mono ?_
 rintro e y1 ⟨er, her, rfl, rfl⟩
 have hern : (er != 0) = true := by rw [bne, her]; rfl
 have hlt := HS.out.pb.lt
 have hf := HS.out.pb.frozen 12
 have HS2 := Lib.hid (HS.out.at (setAt w2 w.heap.size 12 (.int .u8 3)) (HS.out.pb.setSt 3) rfl)
 go_wp2_with (first
   | (refine sel (some 26) (.load _ (.tmp 1)) ?_; refine Vm_stop ?_))
 refine HoleV.mk ?_
 refine wpList_load_row rfl 69 (.tmp 1) rfl w.heap.size rfl 69 _ (0, 0) _ HS2.out.pb.out Tryz.underlying69 rfl (by rw [partC_size HS2.out.pb.len]; exact info_part) ?_
 go_wp2_with (first
   | (refine sel none (.store _ (.tmp 2) (.tmp 26)) ?_; refine Vm_stop ?_))
 refine HoleV.mk ?_
 refine wpList_store_rowA rfl 69 (.tmp 2) (.tmp 26) rfl (w.heap.size + 1) _ rfl rfl 69 zeroPart HS2.out.rb (by rw [partC_size HS2.out.pb.len]; exact info_part) (by rw [partC_size HS2.out.pb.len]; rfl) (partC_one _ _ rfl) ?_
 intro WR hgR hbR
 have HBR := Lib.hid hbR
 have HGR := Lib.hid hgR
 clear hbR hgR
 go_wp2_with fail
 refine bodyPost_ret (results_ctt Tryz.results230 _ _ (w.heap.size + 1) 69 _ (0, 0) _ (.int .i64 (-1)) (.int .i64 (0)) rfl rfl rfl HBR.out Tryz.underlying69 rfl (by rw [partC_size HS2.out.pb.len]; exact info_part)) rfl ?_
 exact ⟨_, _, rfl, HS2.out.h1, HS2.out.h2, (HS2.out.own.keep HGR.out (fun b o e1 e2 e3 e4 => by omega)).mono (by omega), HS2.out.chg.then_new HGR.out (fun x e => by omega)⟩
set_option maxRecDepth 100000 in
theorem step_badop (p : Pt) (A : Option Addr) (c : Nat) (w : World) (hb : p.Bd) (hr : Rd w A p.mem) (hl : p.mem.length ≤ 140737488355328) (hs : p.st = 0) (ht : there p.mem p.pc 4 = true) (f0 f1 f2 f3 : UInt8) (hcut : cut p.mem p.pc 4 = [f0, f1, f2, f3]) (hm : mayB (decI f0.toNat f1.toNat f2.toNat f3.toNat) = false) :
  Calls Tryz.prog 230 #[.agg (partC p (.slice A p.mem.length c))] w (RetStep w ({ p with st := 2 }) (-1) (0)) := by
 have HT := Lib.hid ht
 have HM := Lib.hid hm
 have HF4 : Hid (Four (f0.toNat, f1.toNat, f2.toNat, f3.toNat)) := Lib.hid ⟨f0.toNat_lt, f1.toNat_lt, f2.toNat_lt, f3.toNat_lt⟩
 clear ht hm
 have h8 := hb.r8
 have HBd := Lib.hid hb
 obtain ⟨C, hC⟩ : ∃ C, partC p (.slice A p.mem.length c) = C := ⟨_, rfl⟩
 have hsz : C.size = 14 := by rw [← hC]; exact partC_size h8 _
 have hcp := fun W hrW => Copy_ok p A p.mem c W h8 hrW hl
 rw [hC] at hcp ⊢
 have HCp := Lib.hid hcp
 have HR := Lib.hid hr
 clear hcp hC hr hb
 go_enter Tryz.func230, Tryz.ntmps230
 go_wp2_with (first
   | (refine sel (some 8) (.load _ (.tmp 1)) ?_; refine Vm_stop ?_))
 refine HoleV.mk ?_
 refine wpList_load_row rfl 69 (.tmp 1) rfl w.heap.size rfl 69 C (0, 0) _ (al_2_0 w _ _) Tryz.underlying69 rfl (by rw [hsz]; exact info_part) ?_
 go_wp2_with fail
 refine (HCp.out _ (HR.out.non (((Chg.refl Non w).alloc _).alloc _))).mono ?_
 rintro e w1 ⟨A2, c2, rfl, q1, q2, q3, q4⟩
 have hbx := blockN q4 (al_2_0 w (.cells C 69) (.cells zeroPart 69))
 have HBy := Lib.hid (blockN q4 (al_2_1 w (.cells C 69) (.cells zeroPart 69)))
 have HO := Lib.hid (q3.mono (show w.heap.size + 2 ≤ _ by simp))
 have HG := Lib.hid ((((Chg.refl Non w).alloc _).alloc _).then_non q4)
 clear q3 q4
 go_wp2_with (first
   | (refine sel none (.store _ (.tmp 1) (.tmp 9)) ?_; refine Vm_stop ?_))
 refine HoleV.mk ?_
 refine wpList_store_rowA rfl 69 (.tmp 1) (.tmp 9) rfl w.heap.size (partC p (.slice A2 p.mem.length c2)) rfl rfl 69 C hbx (by rw [partC_size h8]; exact info_part) (by rw [partC_size h8, hsz]) (partC_one _ _ rfl) ?_
 intro w2 hg2 hb2
 have hst0 : StS w w2 p A2 c2 := ⟨⟨hb2, h8⟩, blockS HBy.out hg2 (by omega), HO.out.keep hg2 (fun b o e1 e2 e3 e4 => by omega), HG.out.then_new hg2 (fun x e => by omega), q1, q2⟩
 have HS := Lib.hid hst0
 have c12 := hst0.pb.cells.2.2.2.2.1
 clear hg2 hb2 hst0 hbx
 have c12' : w2.cell? ⟨w.heap.size, 12, none⟩ = some (.int .u8 0) := by rw [hs] at c12; exact c12
 have c11 := HS.out.pb.cells.2.2.2.1
 have c13 := HS.out.pb.cells.2.2.2.2.2
 have hwp : IntKind.i64.wrap (p.pc : Int) = p.pc := Go.IntWalk.i64_in _ (by have := HBd.out.pcb; omega)
 clear c12 hs
 go_wp2_with fail
 have hrd := Read_yes A2 p.mem c2 p.pc 4 w2 HS.out.own.rd q1 q2 (by omega) HT.out
 rw [hcut] at hrd
 refine hrd.mono ?_
 rintro e y1 ⟨A3, c3, rfl, k1, k2, k3, k4⟩
 obtain ⟨b3, o3, rfl, _, hc3⟩ := k3.rd.at_ (by simp)
 have d0 := hc3 0 (by simp)
 have d1 := hc3 1 (by simp)
 have d2 := hc3 2 (by simp)
 have d3 := hc3 3 (by simp)
 simp only [Nat.add_zero, List.getElem_cons_zero, List.getElem_cons_succ] at d0 d1 d2 d3
 have HS := Lib.hid (HS.out.non k4)
 have harr : ∀ W : World, (Instr.arrayAt 146 (.slice (some ⟨b3, o3, none⟩) 4 c3)).run Tryz.prog W = .ok (.pointer (some ⟨b3, o3, none⟩)) W := fun W => run_arrayAt W _ _ 4 _ 4 c3 Tryz.underlying146 (Nat.le_refl _)
 clear hc3 k3 k4 hrd c12' c11 c13
 go_wp2_with fail
 refine (Dec_n f0.toNat f1.toNat f2.toNat f3.toNat _ HF4.out HM.out).mono ?_
 rintro e y2 ⟨rfl, k5⟩
 have HS := Lib.hid (HS.out.non k5)
 clear k5 d0 d1 d2 d3
 have hs3 := HS.out.non ((Chg.refl Non _).alloc (.cells #[.int .u8 0, .int .u8 0, .int .u8 0, .int .u8 0, .int .i64 0] 143))
 have HS3 := Lib.hid hs3
 have c12 := hs3.pb.cells.2.2.2.2.1
 have hlt := hs3.pb.lt
 have hf := hs3.pb.frozen 12
 clear hs3
 have HS4 := Lib.hid (HS3.out.at (setAt _ w.heap.size 12 (.int .u8 2)) (HS3.out.pb.setSt 2) rfl)
 go_wp2_with (first
   | (refine sel (some 37) (.load _ (.tmp 1)) ?_; refine Vm_stop ?_))
 refine HoleV.mk ?_
 refine wpList_load_row rfl 69 (.tmp 1) rfl w.heap.size rfl 69 _ (0, 0) _ HS4.out.pb.out Tryz.underlying69 rfl (by rw [partC_size HS4.out.pb.len]; exact info_part) ?_
 go_wp2_with (first
   | (refine sel none (.store _ (.tmp 2) (.tmp 37)) ?_; refine Vm_stop ?_))
 refine HoleV.mk ?_
 refine wpList_store_rowA rfl 69 (.tmp 2) (.tmp 37) rfl (w.heap.size + 1) _ rfl rfl 69 zeroPart HS4.out.rb (by rw [partC_size HS4.out.pb.len]; exact info_part) (by rw [partC_size HS4.out.pb.len]; rfl) (partC_one _ _ rfl) ?_
 intro WR hgR hbR
 have HBR := Lib.hid hbR
 have HGR := Lib.hid hgR
 clear hbR hgR
 go_wp2_with fail
 refine bodyPost_ret (results_ctt Tryz.results230 _ _ (w.heap.size + 1) 69 _ (0, 0) _ (.int .i64 (-1)) (.int .i64 (0)) rfl rfl rfl HBR.out Tryz.underlying69 rfl (by rw [partC_size HS4.out.pb.len]; exact info_part)) rfl ?_
 exact ⟨_, _, rfl, HS4.out.h1, HS4.out.h2, (HS4.out.own.keep HGR.out (fun b o e1 e2 e3 e4 => by omega)).mono (by omega), HS4.out.chg.then_new HGR.out (fun x e => by omega)⟩
end
section
open Go.RowKit
theorem may_bd {op a b c n : Nat} (h : mayB ⟨op, a, b, c, (n : Nat)⟩ = true) : op < 22 ∧ a < 8 ∧ b < 8 ∧ c < 8 ∧ n < 65536 := by
 have hi := (mayB_iff _).1 h
 obtain ⟨h1, h2, h3, h4, h5, h6⟩ := hi
 simp only at h1 h2 h3 h4 h5 h6
 have hn := opAt_n op
 have h1' := h1.2
 refine ⟨by omega, ?_, ?_, ?_, by omega⟩
 ·rcases h2 with ⟨_, h⟩ | h <;> omega
 ·rcases h3 with ⟨_, h⟩ | h <;> omega
 ·rcases h4 with ⟨_, h⟩ | h <;> omega
set_option maxRecDepth 100000 in
theorem step_jump (p : Pt) (A : Option Addr) (c : Nat) (w : World) (hb : p.Bd) (hr : Rd w A p.mem) (hl : p.mem.length ≤ 140737488355328) (hs : p.st = 0) (ht : there p.mem p.pc 4 = true) (f0 f1 f2 f3 : UInt8) (hcut : cut p.mem p.pc 4 = [f0, f1, f2, f3]) (op a b2 cc n : Nat) (hd : decI f0.toNat f1.toNat f2.toNat f3.toNat = ⟨op, a, b2, cc, (n : Nat)⟩) (hm : mayB ⟨op, a, b2, cc, (n : Nat)⟩ = true) (hj : jumpsB ⟨op, a, b2, cc, (n : Nat)⟩ p = true) :
  Calls Tryz.prog 230 #[.agg (partC p (.slice A p.mem.length c))] w (RetStep w ({ p with pc := n }) (-1) (0)) := by
 have HT := Lib.hid ht
 have HM := Lib.hid hm
 have HDc := Lib.hid hd
 have hx1 := may_bd hm
 have ho22 : op < 22 := hx1.1
 have ha8 : a < 8 := hx1.2.1
 have hb8 : b2 < 8 := hx1.2.2.1
 have hc8 : cc < 8 := hx1.2.2.2.1
 have hn16 : n < 65536 := hx1.2.2.2.2
 have HF4 : Hid (Four (f0.toNat, f1.toNat, f2.toNat, f3.toNat)) := Lib.hid ⟨f0.toNat_lt, f1.toNat_lt, f2.toNat_lt, f3.toNat_lt⟩
 clear ht hm hd hx1
 have HJ := Lib.hid hj
 clear hj
 have h8 := hb.r8
 have HBd := Lib.hid hb
 obtain ⟨C, hC⟩ : ∃ C, partC p (.slice A p.mem.length c) = C := ⟨_, rfl⟩
 have hsz : C.size = 14 := by rw [← hC]; exact partC_size h8 _
 have hcp := fun W hrW => Copy_ok p A p.mem c W h8 hrW hl
 rw [hC] at hcp ⊢
 have HCp := Lib.hid hcp
 have HR := Lib.hid hr
 clear hcp hC hr hb
 go_enter Tryz.func230, Tryz.ntmps230
 go_wp2_with (first
   | (refine sel (some 8) (.load _ (.tmp 1)) ?_; refine Vm_stop ?_))
 refine HoleV.mk ?_
 refine wpList_load_row rfl 69 (.tmp 1) rfl w.heap.size rfl 69 C (0, 0) _ (al_2_0 w _ _) Tryz.underlying69 rfl (by rw [hsz]; exact info_part) ?_
 go_wp2_with fail
 refine (HCp.out _ (HR.out.non (((Chg.refl Non w).alloc _).alloc _))).mono ?_
 rintro e w1 ⟨A2, c2, rfl, q1, q2, q3, q4⟩
 have hbx := blockN q4 (al_2_0 w (.cells C 69) (.cells zeroPart 69))
 have HBy := Lib.hid (blockN q4 (al_2_1 w (.cells C 69) (.cells zeroPart 69)))
 have HO := Lib.hid (q3.mono (show w.heap.size + 2 ≤ _ by simp))
 have HG := Lib.hid ((((Chg.refl Non w).alloc _).alloc _).then_non q4)
 clear q3 q4
 go_wp2_with (first
   | (refine sel none (.store _ (.tmp 1) (.tmp 9)) ?_; refine Vm_stop ?_))
 refine HoleV.mk ?_
 refine wpList_store_rowA rfl 69 (.tmp 1) (.tmp 9) rfl w.heap.size (partC p (.slice A2 p.mem.length c2)) rfl rfl 69 C hbx (by rw [partC_size h8]; exact info_part) (by rw [partC_size h8, hsz]) (partC_one _ _ rfl) ?_
 intro w2 hg2 hb2
 have hst0 : StS w w2 p A2 c2 := ⟨⟨hb2, h8⟩, blockS HBy.out hg2 (by omega), HO.out.keep hg2 (fun b o e1 e2 e3 e4 => by omega), HG.out.then_new hg2 (fun x e => by omega), q1, q2⟩
 have HS := Lib.hid hst0
 have c12 := hst0.pb.cells.2.2.2.2.1
 clear hg2 hb2 hst0 hbx
 have c12' : w2.cell? ⟨w.heap.size, 12, none⟩ = some (.int .u8 0) := by rw [hs] at c12; exact c12
 have c11 := HS.out.pb.cells.2.2.2.1
 have c13 := HS.out.pb.cells.2.2.2.2.2
 have hwp : IntKind.i64.wrap (p.pc : Int) = p.pc := Go.IntWalk.i64_in _ (by have := HBd.out.pcb; omega)
 clear c12 hs
 go_wp2_with fail
 have hrd := Read_yes A2 p.mem c2 p.pc 4 w2 HS.out.own.rd q1 q2 (by omega) HT.out
 rw [hcut] at hrd
 refine hrd.mono ?_
 rintro e y1 ⟨A3, c3, rfl, k1, k2, k3, k4⟩
 obtain ⟨b3, o3, rfl, _, hc3⟩ := k3.rd.at_ (by simp)
 have d0 := hc3 0 (by simp)
 have d1 := hc3 1 (by simp)
 have d2 := hc3 2 (by simp)
 have d3 := hc3 3 (by simp)
 simp only [Nat.add_zero, List.getElem_cons_zero, List.getElem_cons_succ] at d0 d1 d2 d3
 have HS := Lib.hid (HS.out.non k4)
 have harr : ∀ W : World, (Instr.arrayAt 146 (.slice (some ⟨b3, o3, none⟩) 4 c3)).run Tryz.prog W = .ok (.pointer (some ⟨b3, o3, none⟩)) W := fun W => run_arrayAt W _ _ 4 _ 4 c3 Tryz.underlying146 (Nat.le_refl _)
 clear hc3 k3 k4 hrd c12' c11 c13
 go_wp2_with fail
 refine (Dec_v f0.toNat f1.toNat f2.toNat f3.toNat op a b2 cc n _ HF4.out HDc.out HM.out).mono ?_
 rintro e y2 ⟨rfl, k5⟩
 have HS := Lib.hid (HS.out.non k5)
 clear k5 d0 d1 d2 d3
 go_wp2_with fail
 have HS3 := Lib.hid (HS.out.non ((Chg.refl Non _).alloc (.cells #[.int .u8 op, .int .u8 a, .int .u8 b2, .int .u8 cc, .int .i64 (n : Nat)] 143)))
 have HX3 := Lib.hid (heap_alloc_new y2 (.cells #[.int .u8 op, .int .u8 a, .int .u8 b2, .int .u8 cc, .int .i64 (n : Nat)] 143))
 refine (jumps_ok w.heap.size p _ op a b2 cc n _ HS3.out.pb ho22 ha8).mono ?_
 rw [HJ.out]
 rintro e y3 ⟨rfl, k6⟩
 have hs4 := HS3.out.non k6
 have HS4 := Lib.hid hs4
 have HX4 := Lib.hid (blockN k6 HX3.out)
 obtain ⟨⟨z, c0, c1, c2x, c3x, c4⟩, _⟩ := (Blk5.mk HX4.out).all
 have hxb : w.heap.size + 2 ≤ y2.heap.size := by have h1 := (Array.getElem?_eq_some_iff.1 HS.out.rb).1; omega
 have c11 := hs4.pb.cells.2.2.2.1
 have hlt := hs4.pb.lt
 clear k6 hs4
 have hf := HS4.out.pb.frozen 11
 have hwn : IntKind.u32.wrap (n : Int) = n := Go.IntWalk.u32_in _ (by omega)
 have HS5 := Lib.hid (HS4.out.at (setAt _ w.heap.size 11 (.int .u32 (n : Nat))) (HS4.out.pb.setPc n) rfl)
 go_wp2_with (first
   | (refine sel (some 44) (.load _ (.tmp 1)) ?_; refine Vm_stop ?_))
 refine HoleV.mk ?_
 refine wpList_load_row rfl 69 (.tmp 1) rfl w.heap.size rfl 69 _ (0, 0) _ HS5.out.pb.out Tryz.underlying69 rfl (by rw [partC_size HS5.out.pb.len]; exact info_part) ?_
 go_wp2_with (first
   | (refine sel none (.store _ (.tmp 2) (.tmp 44)) ?_; refine Vm_stop ?_))
 refine HoleV.mk ?_
 refine wpList_store_rowA rfl 69 (.tmp 2) (.tmp 44) rfl (w.heap.size + 1) _ rfl rfl 69 zeroPart HS5.out.rb (by rw [partC_size HS5.out.pb.len]; exact info_part) (by rw [partC_size HS5.out.pb.len]; rfl) (partC_one _ _ rfl) ?_
 intro WR hgR hbR
 have HBR := Lib.hid hbR
 have HGR := Lib.hid hgR
 clear hbR hgR
 go_wp2_with fail
 refine bodyPost_ret (results_ctt Tryz.results230 _ _ (w.heap.size + 1) 69 _ (0, 0) _ (.int .i64 (-1)) (.int .i64 (0)) rfl rfl rfl HBR.out Tryz.underlying69 rfl (by rw [partC_size HS5.out.pb.len]; exact info_part)) rfl ?_
 exact ⟨_, _, rfl, HS5.out.h1, HS5.out.h2, (HS5.out.own.keep HGR.out (fun b o e1 e2 e3 e4 => by omega)).mono (by omega), HS5.out.chg.then_new HGR.out (fun x e => by omega)⟩
end
section
open Go.RowKit
theorem h_two {P : Program} {md : Region.Mode} {ops : Array Oper} {Q : Exit → Act → World → Prop} {S : World → Prop} {fuel : Nat} {listed : Array Bool} {a : Act} {w : World} (i j : Nat) {oi oj : Oper} (hr : Region.ready md ops listed = [i, j]) (hi : ops[i]? = some oi) (hj : ops[j]? = some oj) (hwi : Region.wanted oi (yielded ops a.tmps) = true) (hwj : Region.wanted oj (yielded ops a.tmps) = true)
  (h1 : ∀ K : Act → World → Prop, Shut (∀ a w, S w → (S w → wpAnyH P md ops Q S fuel (listed.setIfInBounds i true) a w) → K a w) → Oper.wp P oi a w K Q)
  (h2 : ∀ K : Act → World → Prop, Shut (∀ a w, S w → (S w → wpAnyH P md ops Q S fuel (listed.setIfInBounds j true) a w) → K a w) → Oper.wp P oj a w K Q) : wpAnyH P md ops Q S (fuel + 1) listed a w :=
 wpAnyH_ready hr (by simp) (AllReadyH.cons hi (fun K hK => by rw [if_pos hwi]; exact h1 K hK) (AllReadyH.cons hj (fun K hK => by rw [if_pos hwj]; exact h2 K hK) AllReadyH.nil))
theorem fn_ne_d (d : Nat) (f : FuncId) (W : World) : (Op.equalIn (d + 1) 320 (.func (.func f) #[] #[]) .nilFunc).run Tryz.prog W = .ok false W := by simp [Op.equalIn, run_underlying Tryz.underlying320]
theorem fn_ne (f : FuncId) (W : World) : (binOp .neq 320 (.func (.func f) #[] #[]) .nilFunc).run Tryz.prog W = .ok (.bool true) W := by
 have h1 : (Op.equal 320 (.func (.func f) #[] #[]) .nilFunc).run Tryz.prog W = .ok false W := fn_ne_d 9999 f W
 simp only [binOp]
 simp [h1]
theorem fn_eq_d (d : Nat) (W : World) : (Op.equalIn (d + 1) 320 .nilFunc .nilFunc).run Tryz.prog W = .ok true W := by simp [Op.equalIn, run_underlying Tryz.underlying320]
theorem fn_eq (W : World) : (binOp .neq 320 .nilFunc .nilFunc).run Tryz.prog W = .ok (.bool false) W := by
 have h1 : (Op.equal 320 .nilFunc .nilFunc).run Tryz.prog W = .ok true W := fn_eq_d 9999 W
 simp only [binOp]
 simp [h1]
theorem fd_ne_d (d : Nat) (f : FuncId) (W : World) : (Op.equalIn (d + 1) 318 (.func (.func f) #[] #[]) .nilFunc).run Tryz.prog W = .ok false W := by simp [Op.equalIn, run_underlying Tryz.underlying318]
theorem fd_ne (f : FuncId) (W : World) : (binOp .neq 318 (.func (.func f) #[] #[]) .nilFunc).run Tryz.prog W = .ok (.bool true) W := by
 have h1 : (Op.equal 318 (.func (.func f) #[] #[]) .nilFunc).run Tryz.prog W = .ok false W := fd_ne_d 9999 f W
 simp only [binOp]
 simp [h1]
theorem fd_eq_d (d : Nat) (W : World) : (Op.equalIn (d + 1) 318 .nilFunc .nilFunc).run Tryz.prog W = .ok true W := by simp [Op.equalIn, run_underlying Tryz.underlying318]
theorem fd_eq (W : World) : (binOp .neq 318 .nilFunc .nilFunc).run Tryz.prog W = .ok (.bool false) W := by
 have h1 : (Op.equal 318 .nilFunc .nilFunc).run Tryz.prog W = .ok true W := fd_eq_d 9999 W
 simp only [binOp]
 simp [h1]
theorem info_vop : (Tryz.prog.info? 322).map (·.size) = some 2 := by kernel_rfl
end
section
open Go.RowKit
def In (a b : Nat) : Nat → Prop := fun x => a ≤ x ∧ x < b
theorem OwnL.inn {α : Type} {R R' : World → α → List Value → Prop} {B sz : Nat} {e : TypeId} {w : World} {v : Value} {l : List α} (h : OwnL R B e sz w v l) (hR : ∀ a vs, R w a vs → R' w a vs) : SlV R' (In B w.heap.size) sz w l v := by
 obtain ⟨A, c, e1, e2, e3, e4⟩ := h.rd
 exact ⟨A, c, e1, e2, e3, e4.mono (fun b e => h.ge e) (fun a vs _ h => hR a vs h)⟩
structure CfgI (B E : Nat) (w : World) (c : Cfg) (v1 v2 v3 : Value) : Prop where
 ws : SlV winV (In B E) 2 w c.ws v1
 ps : SlV (pnV (In B E)) (In B E) 5 w c.ps v2
 cs : SlV chV (In B E) 5 w c.cs v3
structure StaI (B M E : Nat) (w : World) (s : Sta) (b d : Value) : Prop where
 ps : OwnL (ptV (fun x => In B E x ∧ b.ownBlock ≠ some x)) B 69 14 w b s.parts
 own : ∀ g, b.ownBlock = some g → In B M g
 qs : SlV (quV (In M E)) (In M E) 6 w s.queues d
 le : B ≤ M
theorem pnV.bound {I : Nat → Prop} {w : World} {a : Pn} {vs : List Value} (h : pnV I w a vs) : pnV (fun b => I b ∧ b < w.heap.size) w a vs := by
 obtain ⟨m, h1, h2, h3⟩ := h
 exact ⟨m, h1, h2.bound, h3⟩
theorem CfgO.inn {B : Nat} {w : World} {c : Cfg} {v1 v2 v3 : Value} (h : CfgO B w c v1 v2 v3) : CfgI B w.heap.size w c v1 v2 v3 :=
 ⟨h.ws.inn (fun _ _ h => h), h.ps.inn (fun _ _ h => h.bound.mono (fun b e => ⟨e.1.1, e.2⟩)), h.cs.inn (fun _ _ h => h)⟩
theorem CfgI.non {B E : Nat} {w w' : World} {c : Cfg} {v1 v2 v3 : Value} (h : CfgI B E w c v1 v2 v3) (hg : Chg Non w w') : CfgI B E w' c v1 v2 v3 :=
 ⟨h.ws.non hg (fun _ _ h => h), h.ps.non hg (fun _ _ h => h.keep hg (fun _ _ e => e)), h.cs.non hg (fun _ _ h => h)⟩
theorem StaO.inn {B M : Nat} {w : World} {s : Sta} {b d : Value} (h : StaO B w s b d) (hM : B ≤ M) (h1 : ∀ g, b.ownBlock = some g → g < M) (h2 : SlV (quV (From M)) (From M) 6 w s.queues d) : StaI B M w.heap.size w s b d :=
 ⟨h.ps.mono (fun _ _ h => h.bound.mono (fun b e => ⟨⟨e.1.1, e.2⟩, e.1.2⟩)), fun g e => ⟨(h.ps.ge e).1, h1 g e⟩, (h2.bound (by omega) (fun _ _ _ h => h.bound.mono (fun b e => (⟨e.1, e.2⟩ : In M w.heap.size b)))).mono (fun b e => (⟨e.1, e.2⟩ : In M w.heap.size b)) (fun _ _ _ h => h), hM⟩
theorem StaI.non {B M E : Nat} {w w' : World} {s : Sta} {b d : Value} (h : StaI B M E w s b d) (hg : Chg Non w w') : StaI B M E w' s b d :=
 ⟨h.ps.non hg (fun _ _ h => h.keep hg (fun _ _ e => e)), h.own, h.qs.non hg (fun _ _ h => h.keep hg (fun _ _ e => e)), h.le⟩
theorem mapV_nil {w : World} {q : Nat} (h : w.heap[q]? = some (.map #[] 0)) : MapV w q [] :=
 ⟨⟨#[], 0, h, ⟨fun e h => by simp at h, by simp, by simp⟩, rfl⟩, fun p h => by cases h⟩
theorem ker_made {W : World} {c : Cfg} {s : Sta} {ver : Int} {p q Bc Ec Bs M Es : Nat} {v1 v2 v3 b d : Value} (hblk : W.heap[p]? = some (.cells (kerC ⟨c, s, ver, 0, [], false⟩ ⟨p, q, v1, v2, v3, b⟩ d) 64 (0, 0)))
  (hc : CfgI Bc Ec W c v1 v2 v3) (hs : StaI Bs M Es W s b d) (hm : MapV W q []) (h1 : q < Bc ∨ Ec ≤ q) (h2 : q < Bs ∨ Es ≤ q) (h3 : Ec ≤ Bs) (h4 : Es ≤ p) (h5 : q ≠ p) (h6 : Ec ≤ p) (hME : M ≤ Es) {B0 : Nat} (h7 : B0 ≤ Bc) (h8 : B0 ≤ Bs) (hf : I64 s.frames) (hv : I64 ver) :
  KerB (fun x => KAt.own ⟨p, q, v1, v2, v3, b⟩ x ∨ x < B0) W ⟨c, s, ver, 0, [], false⟩ ⟨p, q, v1, v2, v3, b⟩ := by
 have hN : ∀ x, KAt.own ⟨p, q, v1, v2, v3, b⟩ x → x = p ∨ x = q ∨ (b.ownBlock = some x ∧ Bs ≤ x ∧ x < M) := fun x e => by
  rcases e with e | e | e
  ·exact .inl e
  ·exact .inr (.inl e)
  ·exact .inr (.inr ⟨e, hs.own x e⟩)
 have hcI : ∀ x, In Bc Ec x → ¬ (KAt.own ⟨p, q, v1, v2, v3, b⟩ x ∨ x < B0) := fun x e e2 => by
  obtain ⟨e3, e4⟩ := e
  rcases e2 with e2 | e2
  ·rcases hN x e2 with e | e | ⟨_, e, _⟩ <;> omega
  ·omega
 have hsI : ∀ x, In M Es x → ¬ (KAt.own ⟨p, q, v1, v2, v3, b⟩ x ∨ x < B0) := fun x e e2 => by
  obtain ⟨e3, e4⟩ := e
  have := hs.le
  rcases e2 with e2 | e2
  ·rcases hN x e2 with e | e | ⟨_, _, e⟩ <;> omega
  ·omega
 have hpI : ∀ x, (In Bs Es x ∧ b.ownBlock ≠ some x) → ¬ (KAt.own ⟨p, q, v1, v2, v3, b⟩ x ∨ x < B0) := fun x e e2 => by
  obtain ⟨⟨e3, e4⟩, e5⟩ := e
  rcases e2 with e2 | e2
  ·rcases hN x e2 with e | e | ⟨e, _⟩
   ·omega
   ·omega
   ·exact e5 e
  ·omega
 refine ⟨⟨d, hblk, hs.qs.mono hsI (fun _ _ _ h => h.mono hsI)⟩, fun _ e => .inl e, ⟨h5.symm, fun e => ?_, fun e => ?_⟩, hc.ws.mono hcI (fun _ _ _ h => h), hc.ps.mono hcI (fun _ _ _ h => h.mono hcI), hc.cs.mono hcI (fun _ _ _ h => h), (hs.ps.base (Nat.zero_le _)).mono (fun _ _ h => h.mono hpI), ⟨[], hm, rfl, fun i x y h => by simp at h⟩, hf, hv, by show I64 0; unfold I64; omega⟩
 ·have e3 : Bs ≤ p := (hs.own _ e).1
  have e4 : p < M := (hs.own _ e).2
  omega
 ·have e3 : Bs ≤ q := (hs.own _ e).1
  have e4 : q < M := (hs.own _ e).2
  omega
theorem StaI.cap {B M E : Nat} {w : World} {s : Sta} {b d : Value} (h : StaI B M E w s b d) (hE : ∀ g, b.ownBlock = some g → g < E) (hBE : B ≤ E) : StaI B (min M E) E w s b d :=
 ⟨h.ps, fun g e => ⟨(h.own g e).1, by have := (h.own g e).2; have := hE g e; omega⟩, h.qs.mono (fun x e => (⟨Nat.le_trans (Nat.min_le_left _ _) e.1, e.2⟩ : In _ _ x)) (fun _ _ _ h => h.mono (fun x e => (⟨Nat.le_trans (Nat.min_le_left _ _) e.1, e.2⟩ : In _ _ x))), by have := h.le; omega⟩
open Classical in
set_option maxRecDepth 100000 in
theorem new_okN (I J : Nat → Prop) (w : World) (c : Cfg) (s : Sta) (ver : Int) (A1 A2 A3 : Option Addr) (c1 c2 c3 : Nat) (vb vd : Value) (hc : CfgR J w c A1 A2 A3 c1 c2 c3) (hs : StaV I w s vb vd) (his : isB s c) (hf : I64 s.frames) (hv : I64 ver) (hcl : c.ws.length ≤ 1000 ∧ c.ps.length ≤ 1000 ∧ c.cs.length ≤ 1000) (hsl : s.parts.length ≤ 1000 ∧ s.queues.length ≤ 1000 ∧ ∀ a ∈ s.queues, a.msgs.length ≤ 1000) :
  Calls Tryz.prog 14 #[.agg #[.slice A1 c.ws.length c1, .slice A2 c.ps.length c2, .slice A3 c.cs.length c3], .agg #[.int .i64 s.frames, vb, vd], .int .i64 ver] w fun e w' => ∃ a : KAt, e = .returned (.tuple #[.pointer (some ⟨a.p, 0, none⟩), .int .i64 0]) ∧ KerB (fun x => a.own x ∨ x < w.heap.size) w' ⟨c, s, ver, 0, [], false⟩ a ∧ (∀ b, a.own b → w.heap.size ≤ b) ∧ Chg Non w w' := by
 obtain ⟨Ab, cb, rfl, _⟩ := hs.ps
 obtain ⟨Ad, cd, rfl, _⟩ := hs.qs
 obtain ⟨hcl1, hcl2, hcl3⟩ := hcl
 obtain ⟨hsl1, hsl2, hsl3⟩ := hsl
 have hmm := @run_makeMap Tryz.prog
 have hIs := fun W (hg : Chg Non w W) => is_ok I J W s (.slice Ab s.parts.length cb) (.slice Ad s.queues.length cd) c A1 A2 A3 c1 c2 c3 (hs.non hg) (hc.non hg) hcl2
 simp only [decide_eq_true his] at hIs
 have HIs := Lib.hid hIs
 have HCn := Lib.hid hc
 have HSn := Lib.hid hs
 clear hc hs his hIs
 go_enter Tryz.func14, Tryz.ntmps14
 go_wp2_with fail
 refine (HIs.out _ (((Chg.refl Non w).alloc _).alloc _)).mono ?_
 rintro e u ⟨rfl, hg⟩
 obtain ⟨hb0, hb1, hlt, hgw⟩ := blk_call2 hg
 have HB0u := Lib.hid hb0
 have HB1u := Lib.hid hb1
 have HGu := Lib.hid hgw
 clear hg hb0 hb1 hgw
 go_wp2_with fail
 obtain ⟨V, hV⟩ : ∃ x, x = u.drew := ⟨_, rfl⟩
 have hgV : Chg Non u V := by rw [hV]; exact (Chg.refl Non u).drew
 have HGV := Lib.hid (HGu.out.then_non hgV)
 have HB0 := Lib.hid (blk_keep HB0u.out hgV (fun e => e))
 have HB1 := Lib.hid (blk_keep HB1u.out hgV (fun e => e))
 have HCc := Lib.hid (fun W (hW : Chg Non V W) => ccopy_ok J W c A1 A2 A3 c1 c2 c3 ((HCn.out.non HGV.out).non hW) hcl1 hcl2 hcl3)
 have HSc := Lib.hid (fun W (hW : Chg Non V W) => scopy_apart I W s (.slice Ab s.parts.length cb) (.slice Ad s.queues.length cd) ((HSn.out.non HGV.out).non hW) hsl1 hsl2 hsl3)
 have hwV := HGV.out.size
 clear hgV HB0u HB1u HGu
 refine wp_region_held_drew (S := Chg Non u.drew) (by kernel_rfl) (Chg.refl _ _) (fun hHeld => ?_)
 clear hHeld
 rw [← hV]
 clear hV
 refine h_load 0 (some 12) 26 (.tmp 3) w.heap.size 0 #[.slice A1 c.ws.length c1, .slice A2 c.ps.length c2, .slice A3 c.cs.length c3] _ rfl (by kernel_rfl) (by kernel_rfl) (by kernel_rfl) (by kernel_rfl) (by kernel_rfl) (fun _ _ _ h => h) (by kernel_rfl) (by kernel_rfl) (fun W hW => range_keepS (blk_range HB0.out) hW (fun e => e)) Tryz.underlying26 rfl (by kernel_rfl) (Chg.refl _ _) ?_
 simp only [Act.put, sA, sB, sC]
 refine h_load 2 (some 14) 30 (.tmp 4) (w.heap.size + 1) 0 #[.int .i64 s.frames, .slice Ab s.parts.length cb, .slice Ad s.queues.length cd] _ rfl (by kernel_rfl) (by kernel_rfl) (by kernel_rfl) (by kernel_rfl) (by kernel_rfl) (fun _ _ _ h => h) (by kernel_rfl) (by kernel_rfl) (fun W hW => range_keepS (blk_range HB1.out) hW (fun e => e)) Tryz.underlying30 rfl (by kernel_rfl) (Chg.refl _ _) ?_
 simp only [Act.put, sA, sB, sC]
 refine hp 4 16 (.int .i64 ver) rfl (Chg.refl _ _) ?_
 refine h_two 1 5 (by kernel_rfl) rfl rfl (by kernel_rfl) (by kernel_rfl) ?_ ?_
 ·intro K hK
  go_simp
  refine (HCc.out V (Chg.refl _ _)).mono ?_
  rintro e u1 ⟨v1, v2, v3, rfl, hco, hg1⟩
  obtain ⟨a1, k1, rfl, _⟩ := hco.ws.rd
  obtain ⟨a2, k2, rfl, _⟩ := hco.ps.rd
  obtain ⟨a3, k3, rfl, _⟩ := hco.cs.rd
  have HCI := Lib.hid hco.inn
  have HU1 := Lib.hid hg1
  clear hco hg1
  refine hK.out _ _ HU1.out (fun _ => ?_)
  clear hK K
  try simp only [Act.put, sA, sB, sC]
  refine h_two 3 5 (by kernel_rfl) rfl rfl (by kernel_rfl) (by kernel_rfl) ?_ ?_
  ·intro K hK
   go_simp
   refine (HSc.out u1 HU1.out).mono ?_
   rintro e u3 ⟨b, d, rfl, hso, ⟨M, hM1, hM2, hM3⟩, hg3⟩
   have hcapE := fun g e => (hso.ps.ge (g := g) e).2
   have hcapB := hg3.size
   have HSI0 := hso.inn hM1 hM2 hM3
   obtain ⟨a4, k4, rfl, _⟩ := hso.ps.rd
   obtain ⟨a5, k5, rfl, _⟩ := hso.qs.rd
   have HSI := Lib.hid HSI0
   have HU3 := Lib.hid hg3
   skip
   clear hso hM3 HSI0 hg3
   refine hK.out _ _ (HU1.out.then_non HU3.out) (fun _ => ?_)
   clear hK K
   try simp only [Act.put, sA, sB, sC]
   refine h_one 5 (by kernel_rfl) rfl (by kernel_rfl) ?_
   intro K hK
   go_simp
   refine hK.out _ _ ((HU1.out.then_non HU3.out).alloc _) (fun _ => ?_)
   clear hK K
   try simp only [Act.put, sA, sB, sC]
   have hm0 := heap_alloc_new u3 (.map #[] 0)
   have h3a : Chg Non u3 (u3.alloc (.map #[] 0)) := (Chg.refl Non u3).alloc _
   refine hp 6 18 (.agg #[.bool true, .slice a1 c.ws.length k1, .slice a2 c.ps.length k2, .slice a3 c.cs.length k3, .int .i64 s.frames, .slice a4 s.parts.length k4, .slice a5 s.queues.length k5, .int .i64 ver, .int .i64 0, .map (some u3.heap.size), .bool false]) rfl ((HU1.out.then_non HU3.out).alloc _) ?_ (he := (fun W hW => by kernel_rfl))
   refine h_one 7 (by kernel_rfl) rfl (by kernel_rfl) ?_
   intro K hK
   go_simp
   refine hK.out _ _ (((HU1.out.then_non HU3.out).alloc _).alloc _) (fun _ => ?_)
   clear hK K
   try simp only [Act.put, sA, sB, sC]
   refine hp 8 6 (.pointer (some ⟨(u3.alloc (.map #[] 0)).heap.size, 0, none⟩)) rfl (((HU1.out.then_non HU3.out).alloc _).alloc _) ?_
   refine hp 9 7 (.int .i64 0) rfl (((HU1.out.then_non HU3.out).alloc _).alloc _) ?_
   refine wpAnyH_done (by kernel_rfl) ?_ _
   go_wp2_with fail
   go_ret2
   have hal : Chg Non (u3.alloc (.map #[] 0)) ((u3.alloc (.map #[] 0)).alloc (.cells #[.bool true, .slice a1 c.ws.length k1, .slice a2 c.ps.length k2, .slice a3 c.cs.length k3, .int .i64 s.frames, .slice a4 s.parts.length k4, .slice a5 s.queues.length k5, .int .i64 ver, .int .i64 0, .map (some u3.heap.size), .bool false] 64)) := (Chg.refl Non (u3.alloc (.map #[] 0))).alloc _
   have hVX : Chg Non V (u3.alloc (.map #[] 0)) := ((HU1.out.then_non HU3.out).alloc _)
   have hsV := hVX.size
   have h31 := HU3.out.size
   have h3s : (u3.alloc (.map #[] 0)).heap.size = u3.heap.size + 1 := by simp
   have h1V := HU1.out.size
   refine ⟨⟨(u3.alloc (.map #[] 0)).heap.size, u3.heap.size, .slice a1 c.ws.length k1, .slice a2 c.ps.length k2, .slice a3 c.cs.length k3, .slice a4 s.parts.length k4⟩, rfl, ker_made (q := u3.heap.size) (M := min M u3.heap.size) (heap_alloc_new _ _) (((HCI.out.non HU3.out).non h3a).non hal) (((HSI.out.non h3a).cap hcapE hcapB).non hal) (mapV_nil (blk_keep (hm0) hal (fun e => e))) ?_ ?_ ?_ ?_ ?_ ?_ (Nat.min_le_right _ _) (B0 := w.heap.size) ?_ ?_ hf hv, fun x e => ?_, HGV.out.then_non (hVX.then_non hal)⟩
   all_goals first | omega | skip
   rcases e with e | e | e
   ·have e' : x = (u3.alloc (.map #[] 0)).heap.size := e
    omega
   ·have e' : x = u3.heap.size := e
    omega
   ·have := (HSI.out.own x e).1
    omega
  ·intro K hK
   go_simp
   refine hK.out _ _ (HU1.out.alloc _) (fun _ => ?_)
   clear hK K
   try simp only [Act.put, sA, sB, sC]
   have hm0 := heap_alloc_new u1 (.map #[] 0)
   have h1a : Chg Non u1 (u1.alloc (.map #[] 0)) := (Chg.refl Non u1).alloc _
   refine h_one 3 (by kernel_rfl) rfl (by kernel_rfl) ?_
   intro K hK
   go_simp
   refine (HSc.out (u1.alloc (.map #[] 0)) (HU1.out.alloc _)).mono ?_
   rintro e u3 ⟨b, d, rfl, hso, ⟨M, hM1, hM2, hM3⟩, hg3⟩
   have hcapE := fun g e => (hso.ps.ge (g := g) e).2
   have hcapB := hg3.size
   have HSI0 := hso.inn hM1 hM2 hM3
   obtain ⟨a4, k4, rfl, _⟩ := hso.ps.rd
   obtain ⟨a5, k5, rfl, _⟩ := hso.qs.rd
   have HSI := Lib.hid HSI0
   have HU3 := Lib.hid hg3
   skip
   clear hso hM3 HSI0 hg3
   refine hK.out _ _ ((HU1.out.alloc _).then_non HU3.out) (fun _ => ?_)
   clear hK K
   try simp only [Act.put, sA, sB, sC]
   refine hp 6 18 (.agg #[.bool true, .slice a1 c.ws.length k1, .slice a2 c.ps.length k2, .slice a3 c.cs.length k3, .int .i64 s.frames, .slice a4 s.parts.length k4, .slice a5 s.queues.length k5, .int .i64 ver, .int .i64 0, .map (some u1.heap.size), .bool false]) rfl ((HU1.out.alloc _).then_non HU3.out) ?_ (he := (fun W hW => by kernel_rfl))
   refine h_one 7 (by kernel_rfl) rfl (by kernel_rfl) ?_
   intro K hK
   go_simp
   refine hK.out _ _ (((HU1.out.alloc _).then_non HU3.out).alloc _) (fun _ => ?_)
   clear hK K
   try simp only [Act.put, sA, sB, sC]
   refine hp 8 6 (.pointer (some ⟨u3.heap.size, 0, none⟩)) rfl (((HU1.out.alloc _).then_non HU3.out).alloc _) ?_
   refine hp 9 7 (.int .i64 0) rfl (((HU1.out.alloc _).then_non HU3.out).alloc _) ?_
   refine wpAnyH_done (by kernel_rfl) ?_ _
   go_wp2_with fail
   go_ret2
   have hal : Chg Non u3 (u3.alloc (.cells #[.bool true, .slice a1 c.ws.length k1, .slice a2 c.ps.length k2, .slice a3 c.cs.length k3, .int .i64 s.frames, .slice a4 s.parts.length k4, .slice a5 s.queues.length k5, .int .i64 ver, .int .i64 0, .map (some u1.heap.size), .bool false] 64)) := (Chg.refl Non u3).alloc _
   have hVX : Chg Non V u3 := ((HU1.out.alloc _).then_non HU3.out)
   have hsV := hVX.size
   have h31 := HU3.out.size
   have h3s : (u1.alloc (.map #[] 0)).heap.size = u1.heap.size + 1 := by simp
   have h1V := HU1.out.size
   refine ⟨⟨u3.heap.size, u1.heap.size, .slice a1 c.ws.length k1, .slice a2 c.ps.length k2, .slice a3 c.cs.length k3, .slice a4 s.parts.length k4⟩, rfl, ker_made (q := u1.heap.size) (M := min M u3.heap.size) (heap_alloc_new _ _) (((HCI.out.non h1a).non HU3.out).non hal) ((HSI.out.cap hcapE hcapB).non hal) (mapV_nil (blk_keep ((blk_keep hm0 HU3.out (fun e => e))) hal (fun e => e))) ?_ ?_ ?_ ?_ ?_ ?_ (Nat.min_le_right _ _) (B0 := w.heap.size) ?_ ?_ hf hv, fun x e => ?_, HGV.out.then_non (hVX.then_non hal)⟩
   all_goals first | omega | skip
   rcases e with e | e | e
   ·have e' : x = u3.heap.size := e
    omega
   ·have e' : x = u1.heap.size := e
    omega
   ·have := (HSI.out.own x e).1
    omega
 ·intro K hK
  go_simp
  refine hK.out _ _ ((Chg.refl Non V).alloc _) (fun _ => ?_)
  clear hK K
  try simp only [Act.put, sA, sB, sC]
  have hm0 := heap_alloc_new V (.map #[] 0)
  have hVa : Chg Non V (V.alloc (.map #[] 0)) := (Chg.refl Non V).alloc _
  refine h_one 1 (by kernel_rfl) rfl (by kernel_rfl) ?_
  intro K hK
  go_simp
  refine (HCc.out (V.alloc (.map #[] 0)) hVa).mono ?_
  rintro e u1 ⟨v1, v2, v3, rfl, hco, hg1⟩
  obtain ⟨a1, k1, rfl, _⟩ := hco.ws.rd
  obtain ⟨a2, k2, rfl, _⟩ := hco.ps.rd
  obtain ⟨a3, k3, rfl, _⟩ := hco.cs.rd
  have HCI := Lib.hid hco.inn
  have HU1 := Lib.hid hg1
  clear hco hg1
  refine hK.out _ _ (hVa.then_non HU1.out) (fun _ => ?_)
  clear hK K
  try simp only [Act.put, sA, sB, sC]
  refine h_one 3 (by kernel_rfl) rfl (by kernel_rfl) ?_
  intro K hK
  go_simp
  refine (HSc.out u1 (hVa.then_non HU1.out)).mono ?_
  rintro e u3 ⟨b, d, rfl, hso, ⟨M, hM1, hM2, hM3⟩, hg3⟩
  have hcapE := fun g e => (hso.ps.ge (g := g) e).2
  have hcapB := hg3.size
  have HSI0 := hso.inn hM1 hM2 hM3
  obtain ⟨a4, k4, rfl, _⟩ := hso.ps.rd
  obtain ⟨a5, k5, rfl, _⟩ := hso.qs.rd
  have HSI := Lib.hid HSI0
  have HU3 := Lib.hid hg3
  skip
  clear hso hM3 HSI0 hg3
  refine hK.out _ _ ((hVa.then_non HU1.out).then_non HU3.out) (fun _ => ?_)
  clear hK K
  try simp only [Act.put, sA, sB, sC]
  refine hp 6 18 (.agg #[.bool true, .slice a1 c.ws.length k1, .slice a2 c.ps.length k2, .slice a3 c.cs.length k3, .int .i64 s.frames, .slice a4 s.parts.length k4, .slice a5 s.queues.length k5, .int .i64 ver, .int .i64 0, .map (some V.heap.size), .bool false]) rfl ((hVa.then_non HU1.out).then_non HU3.out) ?_ (he := (fun W hW => by kernel_rfl))
  refine h_one 7 (by kernel_rfl) rfl (by kernel_rfl) ?_
  intro K hK
  go_simp
  refine hK.out _ _ (((hVa.then_non HU1.out).then_non HU3.out).alloc _) (fun _ => ?_)
  clear hK K
  try simp only [Act.put, sA, sB, sC]
  refine hp 8 6 (.pointer (some ⟨u3.heap.size, 0, none⟩)) rfl (((hVa.then_non HU1.out).then_non HU3.out).alloc _) ?_
  refine hp 9 7 (.int .i64 0) rfl (((hVa.then_non HU1.out).then_non HU3.out).alloc _) ?_
  refine wpAnyH_done (by kernel_rfl) ?_ _
  go_wp2_with fail
  go_ret2
  have hal : Chg Non u3 (u3.alloc (.cells #[.bool true, .slice a1 c.ws.length k1, .slice a2 c.ps.length k2, .slice a3 c.cs.length k3, .int .i64 s.frames, .slice a4 s.parts.length k4, .slice a5 s.queues.length k5, .int .i64 ver, .int .i64 0, .map (some V.heap.size), .bool false] 64)) := (Chg.refl Non u3).alloc _
  have hVX : Chg Non V u3 := ((hVa.then_non HU1.out).then_non HU3.out)
  have hsV := hVX.size
  have h31 := HU3.out.size
  have h3s : (V.alloc (.map #[] 0)).heap.size = V.heap.size + 1 := by simp
  have h1V := HU1.out.size
  refine ⟨⟨u3.heap.size, V.heap.size, .slice a1 c.ws.length k1, .slice a2 c.ps.length k2, .slice a3 c.cs.length k3, .slice a4 s.parts.length k4⟩, rfl, ker_made (q := V.heap.size) (M := min M u3.heap.size) (heap_alloc_new _ _) ((HCI.out.non HU3.out).non hal) ((HSI.out.cap hcapE hcapB).non hal) (mapV_nil (blk_keep ((blk_keep hm0 (HU1.out.then_non HU3.out) (fun e => e))) hal (fun e => e))) ?_ ?_ ?_ ?_ ?_ ?_ (Nat.min_le_right _ _) (B0 := w.heap.size) ?_ ?_ hf hv, fun x e => ?_, HGV.out.then_non (hVX.then_non hal)⟩
  all_goals first | omega | skip
  rcases e with e | e | e
  ·have e' : x = u3.heap.size := e
   omega
  ·have e' : x = V.heap.size := e
   omega
  ·have := (HSI.out.own x e).1
   omega
theorem KerB.less {N N' : Nat → Prop} {w : World} {k : Kn} {a : KAt} (h : KerB N' w k a) (h1 : ∀ b, N b → N' b) (h2 : ∀ b, a.own b → N b) : KerB N w k a := by
 have hI : ∀ b, ¬ N' b → ¬ N b := fun b e e2 => e (h1 b e2)
 obtain ⟨⟨vq, a1, a2⟩, a3, a4, a5, a6, a7, a8, ⟨m, a9, a10⟩, a11⟩ := h
 exact ⟨⟨vq, a1, a2.mono hI (fun _ _ _ h => h.mono hI)⟩, h2, a4, a5.mono hI (fun _ _ _ h => h), a6.mono hI (fun _ _ _ h => h.mono hI), a7.mono hI (fun _ _ _ h => h), a8.mono (fun _ _ h => h.mono hI), ⟨m, a9, a10.1, fun i x y hx hy => ⟨(a10.2 i x y hx hy).1, (a10.2 i x y hx hy).2.1.mono hI, (a10.2 i x y hx hy).2.2⟩⟩, a11⟩
end
section
open Go.RowKit
def physL (xs : List (Rg × List UInt8)) : List UInt8 := xs.foldl (fun Z x => put Z x.1.base.toNat x.2) (List.replicate 4096 0)
theorem splice_put (Z : List UInt8) (a : Nat) (b : List UInt8) : splice (Z.map bv) a (b.map bv) = (put Z a b).map bv := by
 simp [splice, put, List.map_append, List.map_take, List.map_drop]
theorem physL_snoc (xs : List (Rg × List UInt8)) (a : Rg) (m : List UInt8) : physL (xs ++ [(a, m)]) = put (physL xs) a.base.toNat m := by
 unfold physL
 rw [List.foldl_append]
 rfl
theorem physL_len {xs : List (Rg × List UInt8)} (h : ∀ x ∈ xs, x.1.may = true ∧ (x.2.length : Int) = x.1.size) : (physL xs).length = 4096 := by
 have gen : ∀ (ys : List (Rg × List UInt8)) (Z : List UInt8), Z.length = 4096 → (∀ x ∈ ys, x.1.may = true ∧ (x.2.length : Int) = x.1.size) → (ys.foldl (fun Z x => put Z x.1.base.toNat x.2) Z).length = 4096 := by
  intro ys
  induction ys with
  | nil => intro Z hZ _; exact hZ
  | cons y t ih =>
   intro Z hZ hy
   refine ih _ ?_ (fun x hx => hy x (List.mem_cons_of_mem _ hx))
   obtain ⟨h1, h2⟩ := hy y (List.mem_cons_self ..)
   have := regMay_iff.1 h1
   rw [put_len (by omega)]
   exact hZ
 exact gen xs _ List.length_replicate h
set_option maxRecDepth 100000 in
theorem mphys_ok (I J J2 : Nat → Prop) (A B : Option Addr) (rs : List Rg) (ms : List (List UInt8)) (c d : Nat) (w : World) (hr : RdL rgV I 2 w A rs) (hm : RdL (msgV J) J2 1 w B ms) (hc : rs.length ≤ c) (hcm : c ≤ maxLen) (hd : ms.length ≤ d) (hdm : d ≤ maxLen) (hlen : rs.length = ms.length)
  (hmay : ∀ (i : Nat) (a : Rg) (m : List UInt8), rs[i]? = some a → ms[i]? = some m → a.may = true ∧ (m.length : Int) = a.size) (hall : regAll rs = 0) :
  Calls Tryz.prog 63 #[.slice A rs.length c, .slice B ms.length d] w fun e w' => ∃ v, e = .returned (.tuple #[v, .int .i64 0]) ∧ BytesV (From w.heap.size) w' (physL (rs.zip ms)) v ∧ Chg Non w w' := by
 have HAll := Lib.hid (fun W (hg : Chg Non w W) => regAll_ok I A rs c W (hr.non hg (fun _ _ h => h)) hc hcm)
 rw [hall] at HAll
 unfold maxLen at hcm hdm
 have HR := Lib.hid hr
 have HM := Lib.hid hm
 have HMay := Lib.hid hmay
 have hmk : ∀ W : World, (Instr.makeSlice 50 (.int .i64 4096) (.int .i64 4096)).run Tryz.prog W = .ok (.slice (some ⟨W.heap.size, 0, none⟩) 4096 4096) (W.alloc (.cells (Array.replicate 4096 (.int .u8 0)) 5)) := fun W => by
  have := mk_bytes (4096 : Int) (by omega) (by omega) W
  simpa using this
 obtain ⟨Z0, hZ0⟩ : ∃ Z, Z = Array.replicate 4096 (Value.int .u8 0) := ⟨_, rfl⟩
 have HZ0 := Lib.hid hZ0
 rw [← hZ0] at hmk
 obtain ⟨n, hn⟩ : ∃ n, rs.length = n := ⟨_, rfl⟩
 have hn2 : ms.length = n := by omega
 have HN := Lib.hid (And.intro hn hn2)
 rw [hn, hn2]
 rw [hn] at hc HAll
 rw [hn2] at hd
 have hneq : ((n : Int) == (n : Int)) = true := by simp
 clear hr hm hmay hall hlen hn hn2 hZ0
 go_enter Tryz.func63, Tryz.ntmps63
 go_wp2_with fail
 go_loopw [19] (fun iv wr => ∃ k : Nat, k ≤ n ∧ iv = .int .i64 k ∧ Hid (Chg Non w wr)) (fun iv _ => n - (intOf iv).toNat)
 case atStart => exact ⟨0, Nat.zero_le _, rfl, Lib.hid (Chg.refl _ _)⟩
 case round =>
  obtain ⟨k, hk, rfl, HG⟩ := hrel
  by_cases hlt : k < n
  ·obtain ⟨a, ha⟩ : ∃ a, rs[k]? = some a := ⟨_, List.getElem?_eq_getElem (by rw [HN.out.1]; exact hlt)⟩
   obtain ⟨m, hmk2⟩ : ∃ m, ms[k]? = some m := ⟨_, List.getElem?_eq_getElem (by rw [HN.out.2]; exact hlt)⟩
   obtain ⟨hmy, hml⟩ := HMay.out k a m ha hmk2
   obtain ⟨b, o, rfl, _, hat⟩ := (HR.out.non HG.out (fun a vs h => h)).at_ (by rw [HN.out.1]; omega)
   obtain ⟨_, _, hrg, rfl⟩ := hat k a ha
   obtain ⟨bm, om, rfl, _, hatm⟩ := (HM.out.non HG.out (fun a vs h => msgV_non _ _ _ _ HG.out h)).at_ (by rw [HN.out.2]; omega)
   obtain ⟨vsm, _, hrgm, mv, rfl, hbm, _⟩ := hatm k m hmk2
   obtain ⟨Am, cm, rfl, _, _, _, _⟩ := hbm
   have k0 : wr.cell? ⟨b, o + k * 2, none⟩ = some (.int .i64 a.base) := hrg 0 _ rfl
   have k1 : wr.cell? ⟨b, o + k * 2 + 1, none⟩ = some (.int .i64 a.size) := hrg 1 _ rfl
   have kb := lt_of_cell k0
   have k2r : wr.cell? ⟨bm, om + k, none⟩ = some (.slice Am m.length cm) := by have := hrgm 0 _ rfl; rwa [Nat.mul_one, Nat.add_zero] at this
   have hltd : decide ((k : Int) < (n : Int)) = true := by simpa using hlt
   have hki : (k : Int) < (n : Int) := by omega
   have HMy := Lib.hid (fun W => regMay_ok a.base a.size W)
   rw [show regMay a.base a.size = true from hmy] at HMy
   have hms : ms.length = n := HN.out.2
   have HMs := Lib.hid hms
   have hsz : ((m.length : Int) == a.size) = true := by simpa using hml
   have hszn : ((m.length : Int) != a.size) = false := by simp [hml]
   simp only at kb
   clear ha hmk2 hmy hat hatm hrg hrgm hms
   go_wp2_with fail
   obtain ⟨V, hV⟩ : ∃ x, x = (wr.alloc (.cells #[.int .i64 a.base, .int .i64 a.size] 81)).drew := ⟨_, rfl⟩
   have hgV : Chg Non wr V := by rw [hV]; exact ((Chg.refl Non wr).alloc _).drew
   have HB7 : Hid (V.heap[wr.heap.size]? = some (.cells #[.int .i64 a.base, .int .i64 a.size] 81 (0, 0))) := Lib.hid (by rw [hV]; exact heap_alloc_new _ _)
   have k2 : V.cell? ⟨bm, om + k, none⟩ = some (.slice Am m.length cm) := hgV.cell_some k2r (fun e => e)
   have k3 : V.cell? ⟨wr.heap.size, 1, none⟩ = some (.int .i64 a.size) := blk_cell HB7.out 1 rfl
   have HGV := Lib.hid (HG.out.then_non hgV)
   clear hgV k0 k1 k2r kb
   refine wp_region_held_drew (S := Chg Non (wr.alloc (.cells #[.int .i64 a.base, .int .i64 a.size] 81)).drew) (by kernel_rfl) (Chg.refl _ _) (fun hHeld => ?_)
   clear hHeld
   rw [← hV]
   clear hV
   refine h_load 0 (some 24) 81 (.tmp 7) wr.heap.size 0 #[.int .i64 a.base, .int .i64 a.size] _ rfl (by kernel_rfl) (by kernel_rfl) (by kernel_rfl) (by kernel_rfl) (by kernel_rfl) (fun _ _ _ h => h) (by kernel_rfl) (by kernel_rfl) (fun W hW => range_keepS (blk_range HB7.out) hW (fun e => e)) Tryz.underlying81 rfl (by kernel_rfl) (Chg.refl _ _) ?_
   simp only [Act.put, sA, sB, sC]
   refine h_one 1 (by kernel_rfl) rfl (by kernel_rfl) ?_
   intro K hK
   go_simp
   refine (HMy.out V).mono ?_
   rintro e u1 ⟨rfl, hg⟩
   have HU := Lib.hid hg
   clear hg
   refine hK.out _ _ HU.out (fun _ => ?_)
   clear hK K
   try simp only [Act.put, sA, sB, sC]
   refine hp 2 26 (.bool false) rfl HU.out ?_
   refine hp 3 27 (.bool false) rfl HU.out ?_
   refine hp 4 28 (.slice (some ⟨bm, om, none⟩) n d) rfl HU.out ?_
   refine hp 5 29 (.int .i64 k) rfl HU.out ?_
   refine hp 6 30 (.pointer (some ⟨bm, om + k, none⟩)) rfl HU.out ?_
   refine hp 7 31 (.slice Am m.length cm) rfl HU.out ?_ (he := (fun W hW => by have hc := hW.cell_some k2 (fun e => e); go_simp))
   refine hp 8 32 (.int .i64 (m.length : Nat)) rfl HU.out ?_
   refine hp 9 33 (.pointer (some ⟨wr.heap.size, 1, none⟩)) rfl HU.out ?_
   refine hp 10 34 (.int .i64 a.size) rfl HU.out ?_ (he := (fun W hW => by have hc := hW.cell_some k3 (fun e => e); go_simp))
   refine hp 11 35 (.bool false) rfl HU.out ?_
   refine hp 12 36 (.bool false) rfl HU.out ?_
   refine wpAnyH_done (by kernel_rfl) ?_ _
   have HG3 := Lib.hid (HGV.out.then_non HU.out)
   clear k2 k3
   go_wp2_with fail
   exact ⟨⟨k + 1, by omega, by simp, HG3⟩, by simp [intOf]; omega⟩
  ·obtain rfl : n = k := by omega
   have hltd : decide ((n : Int) < (n : Int)) = false := by simp
   go_wp2_with fail
   refine (HAll.out _ HG.out).mono ?_
   rintro e u ⟨rfl, hg⟩
   have HGu := Lib.hid (HG.out.then_non hg)
   clear hg
   go_wp2_with fail
   obtain ⟨G, hG⟩ : ∃ x, x = u.heap.size := ⟨_, rfl⟩
   have HGa : Hid (Chg Non w (u.alloc (.cells Z0 5))) := Lib.hid (HGu.out.alloc _)
   have HBa : Hid ((u.alloc (.cells Z0 5)).heap[G]? = some (.cells ((physL ((rs.zip ms).take 0)).map bv).toArray 5 (0, 0))) := Lib.hid (by
     rw [hG, heap_alloc_new, HZ0.out]
     unfold physL
     rw [List.take_zero, List.foldl_nil, List.map_replicate, List.toArray_replicate]
     first | rfl | skip)
   have hwG : w.heap.size ≤ G := by have := HGu.out.size; omega
   rw [← hG]
   generalize u.alloc (.cells Z0 5) = ua at HGa HBa ⊢
   clear hG hmk
   have HZl : Hid (∀ k, (physL ((rs.zip ms).take k)).length = 4096) := Lib.hid (fun k => physL_len (fun x hx => by
     obtain ⟨i, hi⟩ := List.getElem?_of_mem (List.mem_of_mem_take hx)
     rw [List.getElem?_zip_eq_some] at hi
     exact HMay.out i x.1 x.2 hi.1 hi.2))
   go_loopw [46] (fun iv wr => ∃ k : Nat, k ≤ n ∧ iv = .int .i64 k ∧ Hid (Chg Non w wr) ∧ Hid (wr.heap[G]? = some (.cells ((physL ((rs.zip ms).take k)).map bv).toArray 5 (0, 0)))) (fun iv _ => n - (intOf iv).toNat)
   case atStart => exact ⟨0, Nat.zero_le _, rfl, HGa, HBa⟩
   case round =>
    obtain ⟨k, hk, rfl, HG, HB⟩ := hrel
    by_cases hlt : k < n
    ·obtain ⟨a, ha⟩ : ∃ a, rs[k]? = some a := ⟨_, List.getElem?_eq_getElem (by rw [HN.out.1]; exact hlt)⟩
     obtain ⟨m, hmk2⟩ : ∃ m, ms[k]? = some m := ⟨_, List.getElem?_eq_getElem (by rw [HN.out.2]; exact hlt)⟩
     obtain ⟨hmy, hml⟩ := HMay.out k a m ha hmk2
     have hri := regMay_iff.1 hmy
     obtain ⟨b, o, rfl, _, hat⟩ := (HR.out.non HG.out (fun a vs h => h)).at_ (by rw [HN.out.1]; omega)
     obtain ⟨_, _, hrg, rfl⟩ := hat k a ha
     obtain ⟨bm, om, rfl, _, hatm⟩ := (HM.out.non HG.out (fun a vs h => msgV_non _ _ _ _ HG.out h)).at_ (by rw [HN.out.2]; omega)
     obtain ⟨vsm, _, hrgm, mv, rfl, hbm, _⟩ := hatm k m hmk2
     have HBm := Lib.hid hbm
     obtain ⟨Am, cm, rfl, _, _, _, _⟩ := hbm
     have k0 : wr.cell? ⟨b, o + k * 2, none⟩ = some (.int .i64 a.base) := hrg 0 _ rfl
     have k1 : wr.cell? ⟨b, o + k * 2 + 1, none⟩ = some (.int .i64 a.size) := hrg 1 _ rfl
     have k2r : wr.cell? ⟨bm, om + k, none⟩ = some (.slice Am m.length cm) := by have := hrgm 0 _ rfl; rwa [Nat.mul_one, Nat.add_zero] at this
     have hltd : decide ((k : Int) < (n : Int)) = true := by simpa using hlt
     have hki : (k : Int) < (n : Int) := by omega
     have HS : Hid (physL ((rs.zip ms).take (k + 1)) = put (physL ((rs.zip ms).take k)) a.base.toNat m) := Lib.hid (by
       have hz : (rs.zip ms)[k]? = some (a, m) := List.getElem?_zip_eq_some.2 ⟨ha, hmk2⟩
       obtain ⟨hkz, hz⟩ := List.getElem?_eq_some_iff.1 hz
       rw [List.take_succ_eq_append_getElem hkz, hz, physL_snoc])
     obtain ⟨nb, hnb⟩ : ∃ nb : Nat, a.base = nb := ⟨a.base.toNat, by omega⟩
     rw [hnb] at k0 hri HS
     rw [Int.toNat_natCast] at HS
     obtain ⟨asz, has⟩ : ∃ x, a.size = x := ⟨_, rfl⟩
     rw [has] at k1 hri hml
     clear ha hmk2 hmy hat hatm hrg hrgm hnb has
     go_wp2_with fail
     obtain ⟨V, hV⟩ : ∃ x, x = (wr.alloc (.cells #[.int .i64 (nb : Int), .int .i64 asz] 81)).drew := ⟨_, rfl⟩
     have hgV : Chg Non wr V := by rw [hV]; exact ((Chg.refl Non wr).alloc _).drew
     have k2 : V.cell? ⟨bm, om + k, none⟩ = some (.slice Am m.length cm) := hgV.cell_some k2r (fun e => e)
     have k3 : V.cell? ⟨wr.heap.size, 0, none⟩ = some (.int .i64 (nb : Int)) := by rw [hV]; exact blk_cell (heap_alloc_new wr (.cells #[.int .i64 (nb : Int), .int .i64 asz] 81)) 0 rfl
     have HGV := Lib.hid (HG.out.then_non hgV)
     have HBV := Lib.hid (blk_keep HB.out hgV (fun e => e))
     have HBmV := Lib.hid (HBm.out.non hgV)
     clear hgV k0 k1 k2r
     refine wp_region_still_tail 8 (by kernel_rfl) (by kernel_rfl) ?_
     simp only [List.take_succ_cons, List.take_zero, List.drop_succ_cons, List.drop_zero]
     change wpStill _ _ (wr.alloc (.cells #[.int .i64 (nb : Int), .int .i64 asz] 81)).drew (fun a' => wpList _ _ _ _ a' (wr.alloc (.cells #[.int .i64 (nb : Int), .int .i64 asz] 81)).drew) _ _
     rw [← hV]
     clear hV
     have hnb1 : (nb : Int) ≤ 4096 := by omega
     have hnb2 : ¬ 4096 = nb := by omega
     have hnb3 : nb ≤ 4096 := by omega
     iterate 8 still_step
     refine wpStill_nil ?_
     refine wpList_copy_splice rfl (.tmp 54) (.tmp 58) 50 50 rfl 5 Tryz.underlying50 (by kernel_rfl) (some ⟨G, nb, none⟩) Am (4096 - nb) (4096 - nb) m.length cm rfl rfl G nb ((physL ((rs.zip ms).take k)).map bv) 5 HBV.out (m.map bv) ?_ ?_ ?_ ?_ w.heap.size w ?_ hwG ?_
     ·rw [List.length_map, Nat.min_eq_min]; omega
     ·intro h0
      rw [List.length_map] at h0
      refine ⟨rfl, ?_⟩
      obtain ⟨A9, c9, e, _, _, hr9, _⟩ := HBmV.out
      injection e with e _ _
      subst e
      obtain ⟨b9, o9, rfl, _, hat9⟩ := hr9.at_ h0
      refine ⟨_, rfl, fun j u hu => ?_⟩
      rw [List.getElem?_map] at hu
      obtain ⟨y, hy, rfl⟩ := Option.map_eq_some_iff.1 hu
      obtain ⟨hj, rfl⟩ := List.getElem?_eq_some_iff.1 hy
      rw [addr_none]
      exact hat9 j hj
     ·rw [List.length_map, List.length_map, HZl.out]; omega
     ·intro u hu
      obtain ⟨y, _, rfl⟩ := List.mem_map.1 hu
      rfl
     ·exact HGV.out.below (fun _ e => e.elim) (Nat.le_refl _)
     intro w2 hb2 hg2
     have HG2 := Lib.hid (Chg.of_below hg2 (Nat.le_refl _) : Chg Non w w2)
     have HB2 : Hid (w2.heap[G]? = some (.cells ((physL ((rs.zip ms).take (k + 1))).map bv).toArray 5 (0, 0))) := Lib.hid (by
       have h := hb2.out
       rw [splice_put, ← HS.out] at h
       exact h)
     clear hb2 hg2 k2 k3
     go_wp2_with fail
     exact ⟨⟨k + 1, by omega, by simp, HG2, HB2⟩, by simp [intOf]; omega⟩
    ·obtain rfl : k = n := by omega
     have hltd : decide ((k : Int) < (k : Int)) = false := by simp
     have hzt : (rs.zip ms).take k = rs.zip ms := List.take_of_length_le (by rw [List.length_zip, HN.out.1, HN.out.2]; omega)
     have HF : Hid (BytesV (From w.heap.size) wr (physL (rs.zip ms)) (.slice (some ⟨G, 0, none⟩) 4096 4096)) := Lib.hid (by
       have h := HB.out
       have hl := HZl.out k
       rw [hzt] at h hl
       refine ⟨_, 4096, by rw [hl], by rw [hl]; exact Nat.le_refl _, by unfold maxLen; omega, fun i x hx => ⟨G, 0, rfl, ?_⟩, fun b o e _ => ?_⟩
       · rw [cell_of_row _ _ _ _ _ _ h, Nat.zero_add]
         simp [hx, bv]
       · injection e with e
         injection e with e _ _
         subst e
         exact hwG)
     go_wp2_with fail
     go_ret2
     exact ⟨_, rfl, HF.out, HG.out⟩
end
end Go.Proofs.YtmnaleaghfbclaaGreatDoor
