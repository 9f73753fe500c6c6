/- KernelTime, part 16 of 28: contracts of the functions that it reaches, and the laws that they need, merged and shortened (from my texts XVmT, XVmU, XVmY). -/
import Derived.Test.YtmnaleaghfbclaaGreatDoorMgKernelTimeA
import Derived.Test.YtmnaleaghfbclaaGreatDoorMgKernelTimeO
namespace Go.Proofs.YtmnaleaghfbclaaGreatDoor
set_option linter.unusedVariables false
set_option linter.unusedSimpArgs false
set_option maxHeartbeats 8000000
section
open Go.RowKit
def tailO : Nat → Option Code → Option Code
 | 0, o => o
 | n + 1, o => match o with
  | some (.seq _ x) => tailO n (some x)
  | _ => none
theorem rest_of {P : Program} {o : Option Code} {cd c : Code} {Q : Exit → Act → World → Prop} {a : Act} {w : World} (h : o = some cd) (hc : o = some c) (hw : c.wp P Q a w) : cd.wp P Q a w := by
 rw [h] at hc
 injection hc with hc
 subst hc
 exact hw
def vs8 (y : Nat → Value) (wb ob : Nat) : Array Value := #[y 0, .pointer (some ⟨wb, 0, none⟩), .pointer (some ⟨wb + 1, 0, none⟩), y 3, y 4, y 5, .pointer (some ⟨ob, 0, none⟩), undef, y 8, y 9, y 10, y 11, y 12, y 13, y 14, y 15, y 16, y 17, y 18, y 19, y 20, y 21, y 22, y 23, y 24, y 25, y 26, y 27, y 28, y 29, y 30, y 31, y 32, y 33, y 34, y 35, y 36, y 37, y 38, y 39, undef, undef, undef, undef, undef, undef, undef, undef, undef, undef, undef, undef, undef, undef, undef, undef, undef, undef, undef, undef, undef, undef, undef, undef, undef, undef, undef, undef, undef, undef, undef, undef, undef, undef, undef, undef, undef, undef, undef, undef, undef, undef, undef, undef, undef, undef, undef, undef, undef, undef, undef, undef, undef]
def vs9 (y : Nat → Value) (wb ob : Nat) : Array Value := #[y 0, .pointer (some ⟨wb, 0, none⟩), .pointer (some ⟨wb + 1, 0, none⟩), y 3, y 4, y 5, .pointer (some ⟨ob, 0, none⟩), y 7, y 8, y 9, y 10, y 11, y 12, y 13, y 14, y 15, y 16, y 17, y 18, y 19, y 20, y 21, y 22, y 23, y 24, y 25, y 26, y 27, y 28, y 29, y 30, y 31, y 32, y 33, y 34, y 35, y 36, y 37, y 38, y 39, y 40, y 41, y 42, y 43, y 44, y 45, y 46, y 47, y 48, y 49, y 50, y 51, y 52, y 53, y 54, y 55, y 56, y 57, y 58, y 59, y 60, y 61, y 62, y 63, y 64, y 65, y 66, y 67, y 68, y 69, y 70, y 71, y 72, y 73, y 74, y 75, y 76, y 77, y 78, y 79, y 80, undef, undef, undef, undef, undef, undef, undef, undef, undef, undef, undef, undef]
structure AtV (w v : World) (ob : Nat) (p : Pt) (A : Option Addr) (c op a b2 cc n : Nat) : Prop where
 st : StS w v p A c
 x : v.heap[ob]? = some (.cells #[.int .u8 op, .int .u8 a, .int .u8 b2, .int .u8 cc, .int .i64 (n : Nat)] 143 (0, 0))
 lt : w.heap.size + 2 ≤ ob
set_option maxRecDepth 100000 in
theorem vHead (p : Pt) (A : Option Addr) (c : Nat) (w : World) (hb : p.Bd) (hr : Rd w A p.mem) (hl : p.mem.length ≤ 140737488355328) (hs : p.st = 0) (ht : there p.mem p.pc 4 = true) (f0 f1 f2 f3 : UInt8) (hcut : cut p.mem p.pc 4 = [f0, f1, f2, f3]) (op a b2 cc n : Nat) (hd : decI f0.toNat f1.toNat f2.toNat f3.toNat = ⟨op, a, b2, cc, (n : Nat)⟩) (hm : mayB ⟨op, a, b2, cc, (n : Nat)⟩ = true) (hj : jumpsB ⟨op, a, b2, cc, (n : Nat)⟩ p = false) (R : Ending → World → Prop)
  (hrest : ∀ cd, tailO 8 Tryz.f230.body = some cd → ∀ T ob A2 c2 v, T = vs8 (fun i => T.getD i undef) w.heap.size ob → AtV w v ob p A2 c2 op a b2 cc n → cd.wp Tryz.prog (bodyPost Tryz.prog Tryz.f230 R) ⟨T, []⟩ v) :
  Calls Tryz.prog 230 #[.agg (partC p (.slice A p.mem.length c))] w R := by
 have HRest := Lib.hid hrest
 clear hrest
 have HT := Lib.hid ht
 have HM := Lib.hid hm
 have HDc := Lib.hid hd
 have hx1 := may_bd hm
 have ho22 : op < 22 := hx1.1
 have ha8 : a < 8 := hx1.2.1
 have hb8 : b2 < 8 := hx1.2.2.1
 have hc8 : cc < 8 := hx1.2.2.2.1
 have hn16 : n < 65536 := hx1.2.2.2.2
 have HF4 : Hid (Four (f0.toNat, f1.toNat, f2.toNat, f3.toNat)) := Lib.hid ⟨f0.toNat_lt, f1.toNat_lt, f2.toNat_lt, f3.toNat_lt⟩
 clear ht hm hd hx1
 have HJ := Lib.hid hj
 clear hj
 have h8 := hb.r8
 have HBd := Lib.hid hb
 obtain ⟨C, hC⟩ : ∃ C, partC p (.slice A p.mem.length c) = C := ⟨_, rfl⟩
 have hsz : C.size = 14 := by rw [← hC]; exact partC_size h8 _
 have hcp := fun W hrW => Copy_ok p A p.mem c W h8 hrW hl
 rw [hC] at hcp ⊢
 have HCp := Lib.hid hcp
 have HR := Lib.hid hr
 clear hcp hC hr hb
 go_enter Tryz.func230, Tryz.ntmps230
 go_wp2_with (first
   | (refine sel (some 8) (.load _ (.tmp 1)) ?_; refine Vm_stop ?_))
 refine HoleV.mk ?_
 refine wpList_load_row rfl 69 (.tmp 1) rfl w.heap.size rfl 69 C (0, 0) _ (al_2_0 w _ _) Tryz.underlying69 rfl (by rw [hsz]; exact info_part) ?_
 go_wp2_with fail
 refine (HCp.out _ (HR.out.non (((Chg.refl Non w).alloc _).alloc _))).mono ?_
 rintro e w1 ⟨A2, c2, rfl, q1, q2, q3, q4⟩
 have hbx := blockN q4 (al_2_0 w (.cells C 69) (.cells zeroPart 69))
 have HBy := Lib.hid (blockN q4 (al_2_1 w (.cells C 69) (.cells zeroPart 69)))
 have HO := Lib.hid (q3.mono (show w.heap.size + 2 ≤ _ by simp))
 have HG := Lib.hid ((((Chg.refl Non w).alloc _).alloc _).then_non q4)
 clear q3 q4
 go_wp2_with (first
   | (refine sel none (.store _ (.tmp 1) (.tmp 9)) ?_; refine Vm_stop ?_))
 refine HoleV.mk ?_
 refine wpList_store_rowA rfl 69 (.tmp 1) (.tmp 9) rfl w.heap.size (partC p (.slice A2 p.mem.length c2)) rfl rfl 69 C hbx (by rw [partC_size h8]; exact info_part) (by rw [partC_size h8, hsz]) (partC_one _ _ rfl) ?_
 intro w2 hg2 hb2
 have hst0 : StS w w2 p A2 c2 := ⟨⟨hb2, h8⟩, blockS HBy.out hg2 (by omega), HO.out.keep hg2 (fun b o e1 e2 e3 e4 => by omega), HG.out.then_new hg2 (fun x e => by omega), q1, q2⟩
 have HS := Lib.hid hst0
 have c12 := hst0.pb.cells.2.2.2.2.1
 clear hg2 hb2 hst0 hbx
 have c12' : w2.cell? ⟨w.heap.size, 12, none⟩ = some (.int .u8 0) := by rw [hs] at c12; exact c12
 have c11 := HS.out.pb.cells.2.2.2.1
 have c13 := HS.out.pb.cells.2.2.2.2.2
 have hwp : IntKind.i64.wrap (p.pc : Int) = p.pc := Go.IntWalk.i64_in _ (by have := HBd.out.pcb; omega)
 clear c12 hs
 go_wp2_with fail
 have hrd := Read_yes A2 p.mem c2 p.pc 4 w2 HS.out.own.rd q1 q2 (by omega) HT.out
 rw [hcut] at hrd
 refine hrd.mono ?_
 rintro e y1 ⟨A3, c3, rfl, k1, k2, k3, k4⟩
 obtain ⟨b3, o3, rfl, _, hc3⟩ := k3.rd.at_ (by simp)
 have d0 := hc3 0 (by simp)
 have d1 := hc3 1 (by simp)
 have d2 := hc3 2 (by simp)
 have d3 := hc3 3 (by simp)
 simp only [Nat.add_zero, List.getElem_cons_zero, List.getElem_cons_succ] at d0 d1 d2 d3
 have HS := Lib.hid (HS.out.non k4)
 have harr : ∀ W : World, (Instr.arrayAt 146 (.slice (some ⟨b3, o3, none⟩) 4 c3)).run Tryz.prog W = .ok (.pointer (some ⟨b3, o3, none⟩)) W := fun W => run_arrayAt W _ _ 4 _ 4 c3 Tryz.underlying146 (Nat.le_refl _)
 clear hc3 k3 k4 hrd c12' c11 c13
 go_wp2_with fail
 refine (Dec_v f0.toNat f1.toNat f2.toNat f3.toNat op a b2 cc n _ HF4.out HDc.out HM.out).mono ?_
 rintro e y2 ⟨rfl, k5⟩
 have HS := Lib.hid (HS.out.non k5)
 clear k5 d0 d1 d2 d3
 go_wp2_with fail
 have HS3 := Lib.hid (HS.out.non ((Chg.refl Non _).alloc (.cells #[.int .u8 op, .int .u8 a, .int .u8 b2, .int .u8 cc, .int .i64 (n : Nat)] 143)))
 have HX3 := Lib.hid (heap_alloc_new y2 (.cells #[.int .u8 op, .int .u8 a, .int .u8 b2, .int .u8 cc, .int .i64 (n : Nat)] 143))
 refine (jumps_ok w.heap.size p _ op a b2 cc n _ HS3.out.pb ho22 ha8).mono ?_
 rw [HJ.out]
 rintro e y3 ⟨rfl, k6⟩
 have hs4 := HS3.out.non k6
 have HS4 := Lib.hid hs4
 have HX4 := Lib.hid (blockN k6 HX3.out)
 obtain ⟨⟨z, c0, c1, c2x, c3x, c4⟩, _⟩ := (Blk5.mk HX4.out).all
 have hxb : w.heap.size + 2 ≤ y2.heap.size := by have h1 := (Array.getElem?_eq_some_iff.1 HS.out.rb).1; omega
 have c11 := hs4.pb.cells.2.2.2.1
 have hlt := hs4.pb.lt
 clear k6 hs4
 clear z c0 c1 c2x c3x c4 c11
 go_simp
 iterate 8 go_step
 exact HRest.out _ rfl _ _ A2 c2 y3 (by kernel_rfl) ⟨HS4.out, HX4.out, hxb⟩
set_option maxRecDepth 100000 in
theorem vTail (p : Pt) (A : Option Addr) (c : Nat) (w v : World) (ob op a b2 cc n : Nat) (ho22 : op < 22) (hop : op ≠ 20) (cd : Code) (hcd : tailO 9 Tryz.f230.body = some cd) (T : Array Value) (hT : T = vs9 (fun i => T.getD i undef) w.heap.size ob) (hat : AtV w v ob p A c op a b2 cc n) (pc0 : Nat) (hpc : p.pc = pc0) :
  cd.wp Tryz.prog (bodyPost Tryz.prog Tryz.f230 (RetStep w ({ p with pc := (pc0 + 4) % 4294967296 }) (-1) (0))) ⟨T, []⟩ v := by
 subst hpc
 obtain ⟨pv, hpv⟩ : ∃ pv, (p.pc + 4) % 4294967296 = pv := ⟨_, rfl⟩
 have hpcv : ((p.pc : Int) + 4) % 4294967296 = pv := by omega
 rw [hpv]
 clear hpv
 have HS7b := Lib.hid hat.st
 have HX7b := Lib.hid hat.x
 have hxb := hat.lt
 clear hat
 have hc11 : World.cell? _ ⟨w.heap.size, 11, none⟩ = some (.int .u32 (p.pc : Nat)) := HS7b.out.pb.cells.2.2.2.1
 have hlt7 := HS7b.out.pb.lt
 have hf7 := HS7b.out.pb.frozen 11
 have hx7 := row_cell (i := 0) HX7b.out rfl
 have hxne : ob ≠ w.heap.size := by omega
 have HS8 := Lib.hid (HS7b.out.at (setAt v w.heap.size 11 (.int .u32 (pv : Nat))) (HS7b.out.pb.setPc pv) rfl)
 have HX8 := Lib.hid (blockS HX7b.out (setAt v w.heap.size 11 (.int .u32 (pv : Nat))) hxne)
 have hcl := nm_call op ho22
 obtain ⟨N, hN⟩ : ∃ N, (opAt op).name = N := ⟨_, rfl⟩
 have HNm : Hid (∀ W, Calls Tryz.prog 236 #[.int .u8 op] W fun e w' => e = .returned (.string ⟨N.toArray⟩) ∧ Chg Non W w') := Lib.hid (fun W => by have h := Name_ok op W; rw [hN] at h; exact h)
 rw [hN, show decide (op = 20) = false from decide_eq_false hop] at hcl
 clear hN hop
 refine rest_of hcd rfl ?_
 clear hcd
 rw [hT]
 generalize (fun i => T.getD i undef) = y
 clear hT T
 simp only [vs9]
 go_wp2_with fail
 refine (HNm.out _).mono ?_
 rintro e w9 ⟨rfl, k9⟩
 have HS9 := Lib.hid (HS8.out.non k9)
 have HX9 := Lib.hid (blockN k9 HX8.out)
 clear k9 hc11 hlt7 hf7 hx7
 go_wp2_with (first
   | (refine sel (some 92) (.load _ (.tmp 1)) ?_; refine Vm_stop ?_))
 refine HoleV.mk ?_
 refine wpList_load_row rfl 69 (.tmp 1) rfl w.heap.size rfl 69 _ (0, 0) _ HS9.out.pb.out Tryz.underlying69 rfl (by rw [partC_size HS9.out.pb.len]; exact info_part) ?_
 go_wp2_with (first
   | (refine sel none (.store _ (.tmp 2) (.tmp 92)) ?_; refine Vm_stop ?_))
 refine HoleV.mk ?_
 refine wpList_store_rowA rfl 69 (.tmp 2) (.tmp 92) rfl (w.heap.size + 1) _ rfl rfl 69 zeroPart HS9.out.rb (by rw [partC_size HS9.out.pb.len]; exact info_part) (by rw [partC_size HS9.out.pb.len]; rfl) (partC_one _ _ rfl) ?_
 intro WR hgR hbR
 have HBR := Lib.hid hbR
 have HGR := Lib.hid hgR
 clear hbR hgR
 go_wp2_with fail
 refine bodyPost_ret (results_ctt Tryz.results230 _ _ (w.heap.size + 1) 69 _ (0, 0) _ (.int .i64 (-1)) (.int .i64 (0)) rfl rfl rfl HBR.out Tryz.underlying69 rfl (by rw [partC_size HS9.out.pb.len]; exact info_part)) rfl ?_
 exact ⟨_, _, rfl, HS9.out.h1, HS9.out.h2, (HS9.out.own.keep HGR.out (fun b o e1 e2 e3 e4 => by omega)).mono (by omega), HS9.out.chg.then_new HGR.out (fun x e => by omega)⟩
set_option maxRecDepth 100000 in
theorem vTailC (p : Pt) (A : Option Addr) (c : Nat) (w v : World) (ob op a b2 cc n : Nat) (ho22 : op < 22) (hop : op = 20) (cd : Code) (hcd : tailO 9 Tryz.f230.body = some cd) (T : Array Value) (hT : T = vs9 (fun i => T.getD i undef) w.heap.size ob) (hat : AtV w v ob p A c op a b2 cc n) (pc0 : Nat) (hpc : p.pc = pc0) :
  cd.wp Tryz.prog (bodyPost Tryz.prog Tryz.f230 (RetStep w ({ p with pc := (pc0 + 4) % 4294967296 }) (n) (0))) ⟨T, []⟩ v := by
 subst hpc
 obtain ⟨pv, hpv⟩ : ∃ pv, (p.pc + 4) % 4294967296 = pv := ⟨_, rfl⟩
 have hpcv : ((p.pc : Int) + 4) % 4294967296 = pv := by omega
 rw [hpv]
 clear hpv
 have HS7b := Lib.hid hat.st
 have HX7b := Lib.hid hat.x
 have hxb := hat.lt
 clear hat
 have hc11 : World.cell? _ ⟨w.heap.size, 11, none⟩ = some (.int .u32 (p.pc : Nat)) := HS7b.out.pb.cells.2.2.2.1
 have hlt7 := HS7b.out.pb.lt
 have hf7 := HS7b.out.pb.frozen 11
 have hx7 := row_cell (i := 0) HX7b.out rfl
 have hxne : ob ≠ w.heap.size := by omega
 have HS8 := Lib.hid (HS7b.out.at (setAt v w.heap.size 11 (.int .u32 (pv : Nat))) (HS7b.out.pb.setPc pv) rfl)
 have HX8 := Lib.hid (blockS HX7b.out (setAt v w.heap.size 11 (.int .u32 (pv : Nat))) hxne)
 have hcl := nm_call op ho22
 obtain ⟨N, hN⟩ : ∃ N, (opAt op).name = N := ⟨_, rfl⟩
 have HNm : Hid (∀ W, Calls Tryz.prog 236 #[.int .u8 op] W fun e w' => e = .returned (.string ⟨N.toArray⟩) ∧ Chg Non W w') := Lib.hid (fun W => by have h := Name_ok op W; rw [hN] at h; exact h)
 rw [hN, show decide (op = 20) = true from decide_eq_true hop] at hcl
 clear hN hop
 refine rest_of hcd rfl ?_
 clear hcd
 rw [hT]
 generalize (fun i => T.getD i undef) = y
 clear hT T
 simp only [vs9]
 go_wp2_with fail
 refine (HNm.out _).mono ?_
 rintro e w9 ⟨rfl, k9⟩
 have HS9 := Lib.hid (HS8.out.non k9)
 have HX9 := Lib.hid (blockN k9 HX8.out)
 clear k9 hc11 hlt7 hf7 hx7
 have hcm := row_cell (i := 4) HX9.out rfl
 go_wp2_with fail
 refine wp_region_held_drew (S := fun W => Chg (fun k => k = w.heap.size + 1) w9 W) (by kernel_rfl) ((Chg.refl (fun k => k = w.heap.size + 1) _).drew) (fun hHeld => ?_)
 clear hHeld
 refine h_load 0 (some 89) 69 (.tmp 1) w.heap.size 0 _ _ rfl (by kernel_rfl) (by kernel_rfl) (by kernel_rfl) rfl rfl (fun _ _ _ h => h) (by kernel_rfl) rfl (fun W h => row_range (blockS HS9.out.pb.out h (by omega))) Tryz.underlying69 rfl (by rw [partC_size HS9.out.pb.len]; exact info_part) ((Chg.refl (fun k => k = w.heap.size + 1) _).drew) ?_
 simp only [Act.put, sA, sB, sC]
 refine hp 1 90 (.pointer (some ⟨ob, 4, none⟩)) rfl ((Chg.refl (fun k => k = w.heap.size + 1) _).drew) ?_
 refine hp 2 91 (.int .i64 n) rfl ((Chg.refl (fun k => k = w.heap.size + 1) _).drew) ?_ (he := (fun W hW => by have hc := hW.cell_some hcm (fun e => by have e : ob = w.heap.size + 1 := e; omega); go_simp))
 refine h_store 3 69 (.tmp 2) (.tmp 89) (w.heap.size + 1) _ (by kernel_rfl) rfl (by kernel_rfl) rfl rfl rfl rfl 69 ⟨zeroPart, HS9.out.rb, by rw [partC_size HS9.out.pb.len]; rfl⟩ (by rw [partC_size HS9.out.pb.len]; exact info_part) (partC_one _ _ rfl) (fun W hg hb => ((Chg.refl (fun k => k = w.heap.size + 1) _).drew).trans hg (fun _ e => e) (fun _ _ e => e)) ?_
 intro WR hgR hbR
 have HGR : Hid (Chg (fun k => k = w.heap.size + 1) w9 WR) := Lib.hid (((Chg.refl (fun k => k = w.heap.size + 1) _).drew).trans hgR (fun _ e => e) (fun _ _ e => e))
 have HBR := Lib.hid hbR
 clear hgR hbR
 refine hp 4 3 (.int .i64 n) rfl HGR.out ?_
 refine hp 5 4 (.int .i64 0) rfl HGR.out ?_
 refine wpAnyH_done (by kernel_rfl) ?_ _
 go_wp2_with fail
 refine bodyPost_ret (results_ctt Tryz.results230 _ _ (w.heap.size + 1) 69 _ (0, 0) _ (.int .i64 n) (.int .i64 0) rfl rfl rfl HBR.out Tryz.underlying69 rfl (by rw [partC_size HS9.out.pb.len]; exact info_part)) rfl ?_
 exact ⟨_, _, rfl, HS9.out.h1, HS9.out.h2, (HS9.out.own.keep HGR.out (fun b o e1 e2 e3 e4 => by omega)).mono (by omega), HS9.out.chg.then_new HGR.out (fun x e => by omega)⟩
end
section
open Go.RowKit
set_option maxRecDepth 100000 in
theorem step_mkG (p : Pt) (A : Option Addr) (c : Nat) (w : World) (hb : p.Bd) (hr : Rd w A p.mem) (hl : p.mem.length ≤ 140737488355328) (hs : p.st = 0) (ht : there p.mem p.pc 4 = true) (f0 f1 f2 f3 : UInt8) (hcut : cut p.mem p.pc 4 = [f0, f1, f2, f3]) (op a b2 cc n : Nat) (hd : decI f0.toNat f1.toNat f2.toNat f3.toNat = ⟨op, a, b2, cc, (n : Nat)⟩) (hm : mayB ⟨op, a, b2, cc, (n : Nat)⟩ = true) (hj : jumpsB ⟨op, a, b2, cc, (n : Nat)⟩ p = false) (F : FuncId) (h20 : op ≠ 20)
  (hix : ∀ W, (Instr.index 323 (.agg opsC) (.int .u8 op)).run Tryz.prog W = .ok (.agg #[.func (.func F) #[] #[], .nilFunc]) W)
  (hen : ∀ args W, (callFunc F args).run Tryz.prog W = .ok (.enter F args) W)
  (hF : ∀ x y u, x < 4294967296 → y < 4294967296 → Calls Tryz.prog F #[.int .u32 (x : Nat), .int .u32 (y : Nat)] u (fun e u' => e = .returned (.int .u32 ((mk2 op x y : Nat) : Int)) ∧ u = u')) :
  Calls Tryz.prog 230 #[.agg (partC p (.slice A p.mem.length c))] w (RetStep w ({ p.set a (mk2 op (p.g b2) (p.g cc)) with pc := (p.pc + 4) % 4294967296 }) (-1) (0)) := by
 have HBd := Lib.hid hb
 have ho22 : op < 22 := (may_bd hm).1
 have ha8 : a < 8 := (may_bd hm).2.1
 have hb8 : b2 < 8 := (may_bd hm).2.2.1
 have hc8 : cc < 8 := (may_bd hm).2.2.2.1
 have hn16 : n < 65536 := (may_bd hm).2.2.2.2
 have HIx := Lib.hid hix
 have HF := Lib.hid hF
 clear hix hF
 refine vHead p A c w hb hr hl hs ht f0 f1 f2 f3 hcut op a b2 cc n hd hm hj _ ?_
 clear hb hr hl hs ht hcut hd hm hj f0 f1 f2 f3 c A
 intro cd hcd T xb A2 c2 y3 hT hat
 have HS4 := Lib.hid hat.st
 have HX4 := Lib.hid hat.x
 have hxb := hat.lt
 clear hat
 refine rest_of hcd rfl ?_
 clear hcd
 rw [hT]
 generalize (fun i => T.getD i undef) = y
 clear hT T cd
 simp only [vs8]
 obtain ⟨⟨z, c0, c1, c2x, c3x, c4⟩, _⟩ := (Blk5.mk HX4.out).all
 clear z c1 c2x c3x c4
 go_wp2_with fail
 apply wp_cutB (α := Nat) (f := fun ob x => ((((x.put (some 45) (.agg opsC)).put (some 46) (.pointer (some ⟨xb, 0, none⟩))).put (some 47) (.int .u8 op)).put (some 48) (.agg #[.func (.func F) #[] #[], .nilFunc])).put (some 7) (.pointer (some ⟨ob, 0, none⟩)))
  (R := fun ob v => v.heap[ob]? = some (.cells #[.func (.func F) #[] #[], .nilFunc] 322 (0, 0)) ∧ Chg Non y3 v ∧ y3.heap.size ≤ ob)
 ·refine wp_region_held_drew (S := fun W => Chg Non y3 W) (by kernel_rfl) ((Chg.refl Non _).drew) (fun hHeld => ?_)
  clear hHeld
  refine hp 1 46 (.pointer (some ⟨xb, 0, none⟩)) rfl ((Chg.refl Non _).drew) ?_ (hQ := (fun _ _ _ h => absurd h.1 (by simp)))
  refine hp 2 47 (.int .u8 op) rfl ((Chg.refl Non _).drew) ?_ (he := (fun W hW => by have hc := hW.cell_some c0 (fun e => e); go_simp)) (hQ := (fun _ _ _ h => absurd h.1 (by simp)))
  refine h_two 0 4 (by kernel_rfl) rfl rfl (by kernel_rfl) (by kernel_rfl) ?_ ?_
  ·intro K hK
   go_simp
   refine (ops_ok _).mono ?_
   rintro e u1 ⟨rfl, hg1⟩
   have HU1 := Lib.hid (((Chg.refl Non y3).drew).then_non hg1)
   have hsz := HU1.out.size
   clear hg1
   refine hK.out _ _ HU1.out (fun _ => ?_)
   clear hK K
   refine hp 3 48 (.agg #[.func (.func F) #[] #[], .nilFunc]) rfl HU1.out ?_ (he := (fun W hW => by have hc := HIx.out W; go_simp)) (hQ := (fun _ _ _ h => absurd h.1 (by simp)))
   refine h_one 4 (by kernel_rfl) rfl (by kernel_rfl) ?_
   intro K hK
   go_simp
   refine hK.out _ _ (HU1.out.alloc _) (fun _ => ?_)
   clear hK K
   refine h_store 5 322 (.tmp 7) (.tmp 48) u1.heap.size #[.func (.func F) #[] #[], .nilFunc] (by kernel_rfl) rfl (by kernel_rfl) rfl rfl rfl rfl 322 ⟨#[.nilFunc, .nilFunc], heap_alloc_new _ _, rfl⟩ info_vop (by simp [Value.oneCell']) (fun W hg hb => (HU1.out.alloc _).then_new hg (fun x e => by have := e; omega)) ?_
   intro W hgW hbW
   refine wpAnyH_done (by kernel_rfl) ?_ _
   exact ⟨rfl, u1.heap.size, by kernel_rfl, hbW, (HU1.out.alloc _).then_new hgW (fun x e => by have := e; omega), by omega⟩
  ·intro K hK
   go_simp
   refine hK.out _ _ (((Chg.refl Non y3).drew).alloc _) (fun _ => ?_)
   clear hK K
   refine h_one 0 (by kernel_rfl) rfl (by kernel_rfl) ?_
   intro K hK
   go_simp
   refine (ops_ok _).mono ?_
   rintro e u1 ⟨rfl, hg1⟩
   have HU1 := Lib.hid ((((Chg.refl Non y3).drew).alloc _).then_non hg1)
   have HB1 := Lib.hid (blockN hg1 (heap_alloc_new y3.drew _))
   have hyd : y3.drew.heap.size = y3.heap.size := rfl
   clear hg1
   refine hK.out _ _ HU1.out (fun _ => ?_)
   clear hK K
   refine hp 3 48 (.agg #[.func (.func F) #[] #[], .nilFunc]) rfl HU1.out ?_ (he := (fun W hW => by have hc := HIx.out W; go_simp)) (hQ := (fun _ _ _ h => absurd h.1 (by simp)))
   refine h_store 5 322 (.tmp 7) (.tmp 48) y3.heap.size #[.func (.func F) #[] #[], .nilFunc] (by kernel_rfl) rfl (by kernel_rfl) rfl rfl rfl rfl 322 ⟨#[.nilFunc, .nilFunc], HB1.out, rfl⟩ info_vop (by simp [Value.oneCell']) (fun W hg hb => HU1.out.then_new hg (fun x e => by have := e; omega)) ?_
   intro W hgW hbW
   refine wpAnyH_done (by kernel_rfl) ?_ _
   exact ⟨rfl, y3.heap.size, by kernel_rfl, hbW, HU1.out.then_new hgW (fun x e => by have := e; omega), by omega⟩
 rintro ob u ⟨hob, hgu, hle⟩
 simp only [Act.put, sA, sB, sC]
 have HS6 := Lib.hid (HS4.out.non hgu)
 have HX6 := Lib.hid (blockN hgu HX4.out)
 have HOb := Lib.hid hob
 have o0 : u.cell? ⟨ob, 0, none⟩ = some (.func (.func F) #[] #[]) := row_cell hob rfl
 have o1 : u.cell? ⟨ob, 1, none⟩ = some (.nilFunc) := row_cell hob rfl
 have hobx : w.heap.size + 2 ≤ ob := by have h1 := (Array.getElem?_eq_some_iff.1 HS4.out.rb).1; omega
 clear hob hgu c0 HIx
 have hne1 := fn_ne F
 obtain ⟨rb, hrb⟩ : ∃ rb, p.g b2 = rb := ⟨_, rfl⟩
 obtain ⟨rc, hrc⟩ : ∃ rc, p.g cc = rc := ⟨_, rfl⟩
 have hrb32 : rb < 4294967296 := by rw [← hrb]; exact HBd.out.rb b2
 have hrc32 : rc < 4294967296 := by rw [← hrc]; exact HBd.out.rb cc
 rw [hrb, hrc]
 have HRb := Lib.hid hrb
 have HRc := Lib.hid hrc
 clear hrb hrc
 go_wp2_with fail
 refine wp_region_still_tail 17 (by kernel_rfl) (by kernel_rfl) ?_
 simp only [List.take_succ_cons, List.take_zero, List.drop_succ_cons, List.drop_zero]
 change wpStill _ _ u.drew (fun a' => wpList _ _ _ _ a' u.drew) _ _
 have hgd : Chg Non u u.drew := (Chg.refl Non u).drew
 have HS7 := Lib.hid (HS6.out.non hgd)
 have HX7 := Lib.hid (blockN hgd HX6.out)
 have HO7 := Lib.hid (blockN hgd HOb.out)
 clear hgd o0 o1
 generalize u.drew = u7 at HS7 HX7 HO7 ⊢
 obtain ⟨⟨z, c0, c1, c2x, c3x, c4⟩, _⟩ := (Blk5.mk HX7.out).all
 have o0 : u7.cell? ⟨ob, 0, none⟩ = some (.func (.func F) #[] #[]) := row_cell HO7.out rfl
 have hgb := HS7.out.pb.reg b2 hb8
 have hgc := HS7.out.pb.reg cc hc8
 rw [HRb.out] at hgb
 rw [HRc.out] at hgc
 have hga := HS7.out.pb.reg a ha8
 have hlt7 := HS7.out.pb.lt
 have hf7 := HS7.out.pb.frozen (3 + a)
 have hai : (a : Int) < 8 := by omega
 have hbi : (b2 : Int) < 8 := by omega
 have hci : (cc : Int) < 8 := by omega
 iterate 14 still_step
 still_call ((HF.out rb rc u7 hrb32 hrc32).mono (fun e w' h => ⟨h.1, h.2.symm⟩))
 iterate 2 still_step
 refine wpStill_nil ?_
 obtain ⟨mv, hmv⟩ : ∃ mv, mk2 op rb rc = mv := ⟨_, rfl⟩
 rw [hmv]
 have HMv := Lib.hid hmv
 clear hmv c0 c1 c2x c3x c4 o0 HF hen
 have HS7b := Lib.hid (HS7.out.at (setAt u7 w.heap.size (3 + a) (.int .u32 (mv : Nat))) (HS7.out.pb.setReg a mv ha8) rfl)
 have HX7b := Lib.hid (blockS HX7.out (setAt u7 w.heap.size (3 + a) (.int .u32 (mv : Nat))) (show ¬ xb = w.heap.size by omega))
 iterate 6 go_step
 rw [HRb.out, HRc.out, HMv.out]
 exact vTail _ _ _ w _ xb op a b2 cc n ho22 h20 _ rfl _ (by kernel_rfl) ⟨HS7b.out, HX7b.out, hxb⟩ _ rfl
set_option maxRecDepth 100000 in
theorem step_doG (p : Pt) (A : Option Addr) (c : Nat) (w : World) (hb : p.Bd) (hr : Rd w A p.mem) (hl : p.mem.length ≤ 140737488355328) (hs : p.st = 0) (ht : there p.mem p.pc 4 = true) (f0 f1 f2 f3 : UInt8) (hcut : cut p.mem p.pc 4 = [f0, f1, f2, f3]) (op a b2 cc n : Nat) (hd : decI f0.toNat f1.toNat f2.toNat f3.toNat = ⟨op, a, b2, cc, (n : Nat)⟩) (hm : mayB ⟨op, a, b2, cc, (n : Nat)⟩ = true) (hj : jumpsB ⟨op, a, b2, cc, (n : Nat)⟩ p = false) (F : FuncId) (yes : Bool) (q : Pt) (h20 : op ≠ 20)
  (hix : ∀ W, (Instr.index 323 (.agg opsC) (.int .u8 op)).run Tryz.prog W = .ok (.agg #[.nilFunc, .func (.func F) #[] #[]]) W)
  (hen : ∀ args W, (callFunc F args).run Tryz.prog W = .ok (.enter F args) W)
  (hF : ∀ A2 c2 u, StS w u p A2 c2 → Calls Tryz.prog F #[.pointer (some ⟨w.heap.size, 0, none⟩), .agg #[.int .u8 op, .int .u8 a, .int .u8 b2, .int .u8 cc, .int .i64 (n : Nat)]] u (fun e u' => e = .returned (.bool yes) ∧ Chg (fun k => k = w.heap.size) u u' ∧ ∃ A4 c4, StS w u' (bif yes then q else p) A4 c4)) :
  Calls Tryz.prog 230 #[.agg (partC p (.slice A p.mem.length c))] w (RetStep w (bif yes then { q with pc := (q.pc + 4) % 4294967296 } else { p with st := 3 }) (-1) (0)) := by
 have HBd := Lib.hid hb
 have ho22 : op < 22 := (may_bd hm).1
 have ha8 : a < 8 := (may_bd hm).2.1
 have hb8 : b2 < 8 := (may_bd hm).2.2.1
 have hc8 : cc < 8 := (may_bd hm).2.2.2.1
 have hn16 : n < 65536 := (may_bd hm).2.2.2.2
 have HIx := Lib.hid hix
 have HF := Lib.hid hF
 clear hix hF
 refine vHead p A c w hb hr hl hs ht f0 f1 f2 f3 hcut op a b2 cc n hd hm hj _ ?_
 clear hb hr hl hs ht hcut hd hm hj f0 f1 f2 f3 c A
 intro cd hcd T xb A2 c2 y3 hT hat
 have HS4 := Lib.hid hat.st
 have HX4 := Lib.hid hat.x
 have hxb := hat.lt
 clear hat
 refine rest_of hcd rfl ?_
 clear hcd
 rw [hT]
 generalize (fun i => T.getD i undef) = y
 clear hT T cd
 simp only [vs8]
 obtain ⟨⟨z, c0, c1, c2x, c3x, c4⟩, _⟩ := (Blk5.mk HX4.out).all
 clear z c1 c2x c3x c4
 go_wp2_with fail
 apply wp_cutB (α := Nat) (f := fun ob x => ((((x.put (some 45) (.agg opsC)).put (some 46) (.pointer (some ⟨xb, 0, none⟩))).put (some 47) (.int .u8 op)).put (some 48) (.agg #[.nilFunc, .func (.func F) #[] #[]])).put (some 7) (.pointer (some ⟨ob, 0, none⟩)))
  (R := fun ob v => v.heap[ob]? = some (.cells #[.nilFunc, .func (.func F) #[] #[]] 322 (0, 0)) ∧ Chg Non y3 v ∧ y3.heap.size ≤ ob)
 ·refine wp_region_held_drew (S := fun W => Chg Non y3 W) (by kernel_rfl) ((Chg.refl Non _).drew) (fun hHeld => ?_)
  clear hHeld
  refine hp 1 46 (.pointer (some ⟨xb, 0, none⟩)) rfl ((Chg.refl Non _).drew) ?_ (hQ := (fun _ _ _ h => absurd h.1 (by simp)))
  refine hp 2 47 (.int .u8 op) rfl ((Chg.refl Non _).drew) ?_ (he := (fun W hW => by have hc := hW.cell_some c0 (fun e => e); go_simp)) (hQ := (fun _ _ _ h => absurd h.1 (by simp)))
  refine h_two 0 4 (by kernel_rfl) rfl rfl (by kernel_rfl) (by kernel_rfl) ?_ ?_
  ·intro K hK
   go_simp
   refine (ops_ok _).mono ?_
   rintro e u1 ⟨rfl, hg1⟩
   have HU1 := Lib.hid (((Chg.refl Non y3).drew).then_non hg1)
   have hsz := HU1.out.size
   clear hg1
   refine hK.out _ _ HU1.out (fun _ => ?_)
   clear hK K
   refine hp 3 48 (.agg #[.nilFunc, .func (.func F) #[] #[]]) rfl HU1.out ?_ (he := (fun W hW => by have hc := HIx.out W; go_simp)) (hQ := (fun _ _ _ h => absurd h.1 (by simp)))
   refine h_one 4 (by kernel_rfl) rfl (by kernel_rfl) ?_
   intro K hK
   go_simp
   refine hK.out _ _ (HU1.out.alloc _) (fun _ => ?_)
   clear hK K
   refine h_store 5 322 (.tmp 7) (.tmp 48) u1.heap.size #[.nilFunc, .func (.func F) #[] #[]] (by kernel_rfl) rfl (by kernel_rfl) rfl rfl rfl rfl 322 ⟨#[.nilFunc, .nilFunc], heap_alloc_new _ _, rfl⟩ info_vop (by simp [Value.oneCell']) (fun W hg hb => (HU1.out.alloc _).then_new hg (fun x e => by have := e; omega)) ?_
   intro W hgW hbW
   refine wpAnyH_done (by kernel_rfl) ?_ _
   exact ⟨rfl, u1.heap.size, by kernel_rfl, hbW, (HU1.out.alloc _).then_new hgW (fun x e => by have := e; omega), by omega⟩
  ·intro K hK
   go_simp
   refine hK.out _ _ (((Chg.refl Non y3).drew).alloc _) (fun _ => ?_)
   clear hK K
   refine h_one 0 (by kernel_rfl) rfl (by kernel_rfl) ?_
   intro K hK
   go_simp
   refine (ops_ok _).mono ?_
   rintro e u1 ⟨rfl, hg1⟩
   have HU1 := Lib.hid ((((Chg.refl Non y3).drew).alloc _).then_non hg1)
   have HB1 := Lib.hid (blockN hg1 (heap_alloc_new y3.drew _))
   have hyd : y3.drew.heap.size = y3.heap.size := rfl
   clear hg1
   refine hK.out _ _ HU1.out (fun _ => ?_)
   clear hK K
   refine hp 3 48 (.agg #[.nilFunc, .func (.func F) #[] #[]]) rfl HU1.out ?_ (he := (fun W hW => by have hc := HIx.out W; go_simp)) (hQ := (fun _ _ _ h => absurd h.1 (by simp)))
   refine h_store 5 322 (.tmp 7) (.tmp 48) y3.heap.size #[.nilFunc, .func (.func F) #[] #[]] (by kernel_rfl) rfl (by kernel_rfl) rfl rfl rfl rfl 322 ⟨#[.nilFunc, .nilFunc], HB1.out, rfl⟩ info_vop (by simp [Value.oneCell']) (fun W hg hb => HU1.out.then_new hg (fun x e => by have := e; omega)) ?_
   intro W hgW hbW
   refine wpAnyH_done (by kernel_rfl) ?_ _
   exact ⟨rfl, y3.heap.size, by kernel_rfl, hbW, HU1.out.then_new hgW (fun x e => by have := e; omega), by omega⟩
 rintro ob u ⟨hob, hgu, hle⟩
 simp only [Act.put, sA, sB, sC]
 have HS6 := Lib.hid (HS4.out.non hgu)
 have HX6 := Lib.hid (blockN hgu HX4.out)
 have HOb := Lib.hid hob
 have o0 : u.cell? ⟨ob, 0, none⟩ = some (.nilFunc) := row_cell hob rfl
 have o1 : u.cell? ⟨ob, 1, none⟩ = some (.func (.func F) #[] #[]) := row_cell hob rfl
 have hobx : w.heap.size + 2 ≤ ob := by have h1 := (Array.getElem?_eq_some_iff.1 HS4.out.rb).1; omega
 clear hob hgu c0 HIx
 have hne1 := fn_eq
 have hne2 := fd_ne F
 obtain ⟨⟨z, c0, c1, c2x, c3x, c4⟩, _⟩ := (Blk5.mk HX6.out).all
 go_wp2_with fail
 refine (HF.out _ _ _ HS6.out).mono ?_
 rintro e u7 ⟨rfl, hgc, A4, c4m, hst⟩
 have HS7b := Lib.hid hst
 have HX7b := Lib.hid (blockS HX6.out hgc (show ¬ xb = w.heap.size by omega))
 clear hgc hst z c0 c1 c2x c3x c4 o0 o1 HF hen
 cases yes with
 | true =>
  simp only [cond_true] at HS7b ⊢
  go_simp
  iterate 11 go_step
  exact vTail _ _ _ w _ xb op a b2 cc n ho22 h20 _ rfl _ (by kernel_rfl) ⟨HS7b.out, HX7b.out, hxb⟩ _ rfl
 | false =>
  simp only [cond_false] at HS7b ⊢
  have c12 := HS7b.out.pb.cells.2.2.2.2.1
  have hlt7 := HS7b.out.pb.lt
  have hf7 := HS7b.out.pb.frozen 12
  have HS8 := Lib.hid (HS7b.out.at (setAt u7 w.heap.size 12 (.int .u8 3)) (HS7b.out.pb.setSt 3) rfl)
  go_wp2_with (first
    | (refine sel (some 80) (.load _ (.tmp 1)) ?_; refine Vm_stop ?_))
  refine HoleV.mk ?_
  refine wpList_load_row rfl 69 (.tmp 1) rfl w.heap.size rfl 69 _ (0, 0) _ HS8.out.pb.out Tryz.underlying69 rfl (by rw [partC_size HS8.out.pb.len]; exact info_part) ?_
  go_wp2_with (first
    | (refine sel none (.store _ (.tmp 2) (.tmp 80)) ?_; refine Vm_stop ?_))
  refine HoleV.mk ?_
  refine wpList_store_rowA rfl 69 (.tmp 2) (.tmp 80) rfl (w.heap.size + 1) _ rfl rfl 69 zeroPart HS8.out.rb (by rw [partC_size HS8.out.pb.len]; exact info_part) (by rw [partC_size HS8.out.pb.len]; rfl) (partC_one _ _ rfl) ?_
  intro WR hgR hbR
  have HBR := Lib.hid hbR
  have HGR := Lib.hid hgR
  clear hbR hgR
  go_wp2_with fail
  refine bodyPost_ret (results_ctt Tryz.results230 _ _ (w.heap.size + 1) 69 _ (0, 0) _ (.int .i64 (-1)) (.int .i64 (0)) rfl rfl rfl HBR.out Tryz.underlying69 rfl (by rw [partC_size HS8.out.pb.len]; exact info_part)) rfl ?_
  exact ⟨_, _, rfl, HS8.out.h1, HS8.out.h2, (HS8.out.own.keep HGR.out (fun b o e1 e2 e3 e4 => by omega)).mono (by omega), HS8.out.chg.then_new HGR.out (fun x e => by omega)⟩
set_option maxRecDepth 100000 in
theorem step_elG (p : Pt) (A : Option Addr) (c : Nat) (w : World) (hb : p.Bd) (hr : Rd w A p.mem) (hl : p.mem.length ≤ 140737488355328) (hs : p.st = 0) (ht : there p.mem p.pc 4 = true) (f0 f1 f2 f3 : UInt8) (hcut : cut p.mem p.pc 4 = [f0, f1, f2, f3]) (op a b2 cc n : Nat) (hd : decI f0.toNat f1.toNat f2.toNat f3.toNat = ⟨op, a, b2, cc, (n : Nat)⟩) (hm : mayB ⟨op, a, b2, cc, (n : Nat)⟩ = true) (hj : jumpsB ⟨op, a, b2, cc, (n : Nat)⟩ p = false)
  (hix : ∀ W, (Instr.index 323 (.agg opsC) (.int .u8 op)).run Tryz.prog W = .ok (.agg #[.nilFunc, .nilFunc]) W) (r : Int) (hcl : r = if op = 20 then (n : Int) else -1) :
  Calls Tryz.prog 230 #[.agg (partC p (.slice A p.mem.length c))] w (RetStep w ({ p with pc := (p.pc + 4) % 4294967296 }) (r) (0)) := by
 have HBd := Lib.hid hb
 have ho22 : op < 22 := (may_bd hm).1
 have ha8 : a < 8 := (may_bd hm).2.1
 have hb8 : b2 < 8 := (may_bd hm).2.2.1
 have hc8 : cc < 8 := (may_bd hm).2.2.2.1
 have hn16 : n < 65536 := (may_bd hm).2.2.2.2
 have HIx := Lib.hid hix
 have HCl := Lib.hid hcl
 clear hix hcl
 refine vHead p A c w hb hr hl hs ht f0 f1 f2 f3 hcut op a b2 cc n hd hm hj _ ?_
 clear hb hr hl hs ht hcut hd hm hj f0 f1 f2 f3 c A
 intro cd hcd T xb A2 c2 y3 hT hat
 have HS4 := Lib.hid hat.st
 have HX4 := Lib.hid hat.x
 have hxb := hat.lt
 clear hat
 refine rest_of hcd rfl ?_
 clear hcd
 rw [hT]
 generalize (fun i => T.getD i undef) = y
 clear hT T cd
 simp only [vs8]
 obtain ⟨⟨z, c0, c1, c2x, c3x, c4⟩, _⟩ := (Blk5.mk HX4.out).all
 clear z c1 c2x c3x c4
 go_wp2_with fail
 apply wp_cutB (α := Nat) (f := fun ob x => ((((x.put (some 45) (.agg opsC)).put (some 46) (.pointer (some ⟨xb, 0, none⟩))).put (some 47) (.int .u8 op)).put (some 48) (.agg #[.nilFunc, .nilFunc])).put (some 7) (.pointer (some ⟨ob, 0, none⟩)))
  (R := fun ob v => v.heap[ob]? = some (.cells #[.nilFunc, .nilFunc] 322 (0, 0)) ∧ Chg Non y3 v ∧ y3.heap.size ≤ ob)
 ·refine wp_region_held_drew (S := fun W => Chg Non y3 W) (by kernel_rfl) ((Chg.refl Non _).drew) (fun hHeld => ?_)
  clear hHeld
  refine hp 1 46 (.pointer (some ⟨xb, 0, none⟩)) rfl ((Chg.refl Non _).drew) ?_ (hQ := (fun _ _ _ h => absurd h.1 (by simp)))
  refine hp 2 47 (.int .u8 op) rfl ((Chg.refl Non _).drew) ?_ (he := (fun W hW => by have hc := hW.cell_some c0 (fun e => e); go_simp)) (hQ := (fun _ _ _ h => absurd h.1 (by simp)))
  refine h_two 0 4 (by kernel_rfl) rfl rfl (by kernel_rfl) (by kernel_rfl) ?_ ?_
  ·intro K hK
   go_simp
   refine (ops_ok _).mono ?_
   rintro e u1 ⟨rfl, hg1⟩
   have HU1 := Lib.hid (((Chg.refl Non y3).drew).then_non hg1)
   have hsz := HU1.out.size
   clear hg1
   refine hK.out _ _ HU1.out (fun _ => ?_)
   clear hK K
   refine hp 3 48 (.agg #[.nilFunc, .nilFunc]) rfl HU1.out ?_ (he := (fun W hW => by have hc := HIx.out W; go_simp)) (hQ := (fun _ _ _ h => absurd h.1 (by simp)))
   refine h_one 4 (by kernel_rfl) rfl (by kernel_rfl) ?_
   intro K hK
   go_simp
   refine hK.out _ _ (HU1.out.alloc _) (fun _ => ?_)
   clear hK K
   refine h_store 5 322 (.tmp 7) (.tmp 48) u1.heap.size #[.nilFunc, .nilFunc] (by kernel_rfl) rfl (by kernel_rfl) rfl rfl rfl rfl 322 ⟨#[.nilFunc, .nilFunc], heap_alloc_new _ _, rfl⟩ info_vop (by simp [Value.oneCell']) (fun W hg hb => (HU1.out.alloc _).then_new hg (fun x e => by have := e; omega)) ?_
   intro W hgW hbW
   refine wpAnyH_done (by kernel_rfl) ?_ _
   exact ⟨rfl, u1.heap.size, by kernel_rfl, hbW, (HU1.out.alloc _).then_new hgW (fun x e => by have := e; omega), by omega⟩
  ·intro K hK
   go_simp
   refine hK.out _ _ (((Chg.refl Non y3).drew).alloc _) (fun _ => ?_)
   clear hK K
   refine h_one 0 (by kernel_rfl) rfl (by kernel_rfl) ?_
   intro K hK
   go_simp
   refine (ops_ok _).mono ?_
   rintro e u1 ⟨rfl, hg1⟩
   have HU1 := Lib.hid ((((Chg.refl Non y3).drew).alloc _).then_non hg1)
   have HB1 := Lib.hid (blockN hg1 (heap_alloc_new y3.drew _))
   have hyd : y3.drew.heap.size = y3.heap.size := rfl
   clear hg1
   refine hK.out _ _ HU1.out (fun _ => ?_)
   clear hK K
   refine hp 3 48 (.agg #[.nilFunc, .nilFunc]) rfl HU1.out ?_ (he := (fun W hW => by have hc := HIx.out W; go_simp)) (hQ := (fun _ _ _ h => absurd h.1 (by simp)))
   refine h_store 5 322 (.tmp 7) (.tmp 48) y3.heap.size #[.nilFunc, .nilFunc] (by kernel_rfl) rfl (by kernel_rfl) rfl rfl rfl rfl 322 ⟨#[.nilFunc, .nilFunc], HB1.out, rfl⟩ info_vop (by simp [Value.oneCell']) (fun W hg hb => HU1.out.then_new hg (fun x e => by have := e; omega)) ?_
   intro W hgW hbW
   refine wpAnyH_done (by kernel_rfl) ?_ _
   exact ⟨rfl, y3.heap.size, by kernel_rfl, hbW, HU1.out.then_new hgW (fun x e => by have := e; omega), by omega⟩
 rintro ob u ⟨hob, hgu, hle⟩
 simp only [Act.put, sA, sB, sC]
 have HS6 := Lib.hid (HS4.out.non hgu)
 have HX6 := Lib.hid (blockN hgu HX4.out)
 have HOb := Lib.hid hob
 have o0 : u.cell? ⟨ob, 0, none⟩ = some (.nilFunc) := row_cell hob rfl
 have o1 : u.cell? ⟨ob, 1, none⟩ = some (.nilFunc) := row_cell hob rfl
 have hobx : w.heap.size + 2 ≤ ob := by have h1 := (Array.getElem?_eq_some_iff.1 HS4.out.rb).1; omega
 clear hob hgu c0 HIx
 have hne1 := fn_eq
 have hne2 := fd_eq
 iterate 42 go_step
 have hcl := HCl.out
 by_cases h20 : op = 20
 ·rw [if_pos h20] at hcl
  subst hcl
  exact vTailC _ _ _ w _ xb op a b2 cc n ho22 h20 _ rfl _ (by kernel_rfl) ⟨HS6.out, HX6.out, hxb⟩ _ rfl
 ·rw [if_neg h20] at hcl
  subst hcl
  exact vTail _ _ _ w _ xb op a b2 cc n ho22 h20 _ rfl _ (by kernel_rfl) ⟨HS6.out, HX6.out, hxb⟩ _ rfl
end
section
open Go.RowKit
theorem does_1 (p : Pt) (a b c n : Nat) : does ⟨1, a, b, c, (n : Nat)⟩ p = some p := by
 unfold does
 simp
theorem does_2 (p : Pt) (a b c n : Nat) : does ⟨2, a, b, c, (n : Nat)⟩ p = some (p.set a n) := by
 unfold does
 simp
theorem does_3 (p : Pt) (a b c n : Nat) : does ⟨3, a, b, c, (n : Nat)⟩ p = some (p.set a ((p.g a * 65536 % 4294967296) ||| n)) := by
 unfold does
 simp
theorem does_4 (p : Pt) (a b c n : Nat) : does ⟨4, a, b, c, (n : Nat)⟩ p = some (p.set a (mk2 4 (p.g b) (p.g c))) := by
 unfold does
 simp
theorem does_5 (p : Pt) (a b c n : Nat) : does ⟨5, a, b, c, (n : Nat)⟩ p = some (p.set a (mk2 5 (p.g b) (p.g c))) := by
 unfold does
 simp
theorem does_6 (p : Pt) (a b c n : Nat) : does ⟨6, a, b, c, (n : Nat)⟩ p = some (p.set a (mk2 6 (p.g b) (p.g c))) := by
 unfold does
 simp
theorem does_7 (p : Pt) (a b c n : Nat) : does ⟨7, a, b, c, (n : Nat)⟩ p = some (p.set a (mk2 7 (p.g b) (p.g c))) := by
 unfold does
 simp
theorem does_8 (p : Pt) (a b c n : Nat) : does ⟨8, a, b, c, (n : Nat)⟩ p = some (p.set a (mk2 8 (p.g b) (p.g c))) := by
 unfold does
 simp
theorem does_9 (p : Pt) (a b c n : Nat) : does ⟨9, a, b, c, (n : Nat)⟩ p = some (p.set a (mk2 9 (p.g b) (p.g c))) := by
 unfold does
 simp
theorem does_10 (p : Pt) (a b c n : Nat) : does ⟨10, a, b, c, (n : Nat)⟩ p = some (p.set a (mk2 10 (p.g b) (p.g c))) := by
 unfold does
 simp
theorem does_11 (p : Pt) (a b c n : Nat) : does ⟨11, a, b, c, (n : Nat)⟩ p = some (p.set a (mk2 11 (p.g b) (p.g c))) := by
 unfold does
 simp
theorem does_12 (p : Pt) (a b c n : Nat) : does ⟨12, a, b, c, (n : Nat)⟩ p = some (p.set a (mk2 12 (p.g b) (p.g c))) := by
 unfold does
 simp
theorem does_13 (p : Pt) (a b c n : Nat) (h : there p.mem (p.g b + n) 1 = true) : does ⟨13, a, b, c, (n : Nat)⟩ p = some (p.set a (num32 (cut p.mem (p.g b + n) 1))) := by
 unfold does
 simp [h]
theorem does_13n (p : Pt) (a b c n : Nat) (h : there p.mem (p.g b + n) 1 = false) : does ⟨13, a, b, c, (n : Nat)⟩ p = none := by
 unfold does
 simp [h]
theorem does_14 (p : Pt) (a b c n : Nat) (h : there p.mem (p.g b + n) 1 = true) : does ⟨14, a, b, c, (n : Nat)⟩ p = some ({ p with mem := put p.mem (p.g b + n) [UInt8.ofNat (p.g a)] }) := by
 unfold does
 simp [h]
theorem does_14n (p : Pt) (a b c n : Nat) (h : there p.mem (p.g b + n) 1 = false) : does ⟨14, a, b, c, (n : Nat)⟩ p = none := by
 unfold does
 simp [h]
theorem does_15 (p : Pt) (a b c n : Nat) (h : there p.mem (p.g b + n) 4 = true) : does ⟨15, a, b, c, (n : Nat)⟩ p = some (p.set a (num32 (cut p.mem (p.g b + n) 4))) := by
 unfold does
 simp [h]
theorem does_15n (p : Pt) (a b c n : Nat) (h : there p.mem (p.g b + n) 4 = false) : does ⟨15, a, b, c, (n : Nat)⟩ p = none := by
 unfold does
 simp [h]
theorem does_16 (p : Pt) (a b c n : Nat) (h : there p.mem (p.g b + n) 4 = true) : does ⟨16, a, b, c, (n : Nat)⟩ p = some ({ p with mem := put p.mem (p.g b + n) (word32 (p.g a)) }) := by
 unfold does
 simp [h]
theorem does_16n (p : Pt) (a b c n : Nat) (h : there p.mem (p.g b + n) 4 = false) : does ⟨16, a, b, c, (n : Nat)⟩ p = none := by
 unfold does
 simp [h]
theorem does_18 (p : Pt) (a b c n : Nat) : does ⟨18, a, b, c, (n : Nat)⟩ p = some p := by
 unfold does
 simp
theorem does_19 (p : Pt) (a b c n : Nat) : does ⟨19, a, b, c, (n : Nat)⟩ p = some p := by
 unfold does
 simp
theorem does_20 (p : Pt) (a b c n : Nat) : does ⟨20, a, b, c, (n : Nat)⟩ p = some p := by
 unfold does
 simp
theorem does_21 (p : Pt) (a b c n : Nat) : does ⟨21, a, b, c, (n : Nat)⟩ p = some (p.set a (p.g b)) := by
 unfold does
 simp
theorem stepV_stop {p : Pt} (h : p.st ≠ 0) : stepV p = (p, -1, 2) := by unfold stepV; rw [if_pos h]
theorem stepV_nof {p : Pt} (h : p.st = 0) (hf : fetch p = none) : stepV p = ({ p with st := 3 }, -1, 0) := by
 unfold stepV
 rw [if_neg (by omega), hf]
theorem stepV_bad {p : Pt} {x : Ins} (h : p.st = 0) (hf : fetch p = some x) (hm : mayB x = false) : stepV p = ({ p with st := 2 }, -1, 0) := by
 unfold stepV
 rw [if_neg (by omega), hf]
 simp only [hm, Bool.false_eq_true, if_false]
theorem stepV_jump {p : Pt} {x : Ins} (h : p.st = 0) (hf : fetch p = some x) (hm : mayB x = true) (hj : jumpsB x p = true) : stepV p = ({ p with pc := x.n.toNat }, -1, 0) := by
 unfold stepV
 rw [if_neg (by omega), hf]
 simp only [hm, hj, if_true]
theorem stepV_does {p q : Pt} {x : Ins} (h : p.st = 0) (hf : fetch p = some x) (hm : mayB x = true) (hj : jumpsB x p = false) (hd : does x p = some q) : stepV p = ({ q with pc := (p.pc + 4) % 4294967296 }, if x.op = 20 then x.n else -1, 0) := by
 unfold stepV
 rw [if_neg (by omega), hf]
 simp only [hm, hj, if_true, Bool.false_eq_true, if_false, hd]
theorem stepV_fail {p : Pt} {x : Ins} (h : p.st = 0) (hf : fetch p = some x) (hm : mayB x = true) (hj : jumpsB x p = false) (hd : does x p = none) : stepV p = ({ p with st := 3 }, -1, 0) := by
 unfold stepV
 rw [if_neg (by omega), hf]
 simp only [hm, hj, if_true, Bool.false_eq_true, if_false, hd]
theorem doAt {w u : World} {p q : Pt} {A2 : Option Addr} {c2 : Nat} {e : Ending} {u' : World} (hs : StS w u p A2 c2) (hm : q.mem = p.mem) (h : e = .returned (.bool true) ∧ PartB u' w.heap.size q (.slice A2 p.mem.length c2) ∧ Chg (fun k => k = w.heap.size) u u') :
  e = .returned (.bool true) ∧ Chg (fun k => k = w.heap.size) u u' ∧ ∃ A4 c4, StS w u' (bif true then q else p) A4 c4 := ⟨h.1, h.2.2, A2, c2, hs.at h.2.2 h.2.1 hm⟩
theorem doNo {w u : World} {p q : Pt} {A2 : Option Addr} {c2 : Nat} {e : Ending} {u' : World} (hs : StS w u p A2 c2) (h : e = .returned (.bool false) ∧ PartB u' w.heap.size p (.slice A2 p.mem.length c2) ∧ Chg Non u u') :
  e = .returned (.bool false) ∧ Chg (fun k => k = w.heap.size) u u' ∧ ∃ A4 c4, StS w u' (bif false then q else p) A4 c4 := ⟨h.1, h.2.2.mono (fun _ e => absurd e id), A2, c2, hs.non h.2.2⟩
theorem doMem {w u : World} {p : Pt} {A2 : Option Addr} {c2 : Nat} {e : Ending} {u' : World} {l : List UInt8} (hs : StS w u p A2 c2) (hl : l.length = p.mem.length) (h : ∃ A4 c4, e = .returned (.bool true) ∧ PartB u' w.heap.size p (.slice A4 p.mem.length c4) ∧ p.mem.length ≤ c4 ∧ c4 ≤ maxLen ∧ Own u.heap.size u' A4 l ∧ Chg (fun k => k = w.heap.size) u u') :
  e = .returned (.bool true) ∧ Chg (fun k => k = w.heap.size) u u' ∧ ∃ A4 c4, StS w u' (bif true then { p with mem := l } else p) A4 c4 := by
 obtain ⟨A4, c4, h1, h2, h3, h4, h5, h6⟩ := h
 exact ⟨h1, h6, A4, c4, hs.mem h6 (by rw [hl]; exact h2) (by rw [hl]; exact h3) h4 (h5.mono (by have h1 := hs.chg.size; have h2 := (Array.getElem?_eq_some_iff.1 hs.rb).1; omega))⟩
theorem Step_ok (p : Pt) (A : Option Addr) (c : Nat) (w : World) (hb : p.Bd) (hr : Rd w A p.mem) (hl : p.mem.length ≤ 140737488355328) :
  Calls Tryz.prog 230 #[.agg (partC p (.slice A p.mem.length c))] w (RetStep w (stepV p).1 (stepV p).2.1 (stepV p).2.2) := by
 by_cases hs : p.st = 0
 ·cases ht : there p.mem p.pc 4 with
  | false =>
   rw [stepV_nof hs (by unfold fetch; rw [ht]; rfl)]
   exact step_nofetch p A c w hb hr hl hs ht
  | true =>
   have hlen := cut_len (there_yes ht).2
   match hcut : cut p.mem p.pc 4, hlen with
   | [f0, f1, f2, f3], _ =>
    have hfe : fetch p = some (decI f0.toNat f1.toNat f2.toNat f3.toNat) := by unfold fetch; rw [ht, hcut]; rfl
    cases hm : mayB (decI f0.toNat f1.toNat f2.toNat f3.toNat) with
    | false =>
     rw [stepV_bad hs hfe hm]
     exact step_badop p A c w hb hr hl hs ht f0 f1 f2 f3 hcut hm
    | true =>
     obtain ⟨⟨op, a, b2, cc, ni⟩, hd⟩ : ∃ x, decI f0.toNat f1.toNat f2.toNat f3.toNat = x := ⟨_, rfl⟩
     rw [hd] at hm hfe
     have hi := (mayB_iff _).1 hm
     have hop1 : 1 ≤ op := hi.1.1
     have hop2 : op ≤ 21 := hi.1.2
     obtain ⟨n, rfl⟩ : ∃ n : Nat, ni = n := ⟨ni.toNat, by have := hi.2.2.2.2.1; simp only at this; omega⟩
     cases hj : jumpsB ⟨op, a, b2, cc, (n : Nat)⟩ p with
     | true =>
      rw [stepV_jump hs hfe hm hj]
      exact step_jump p A c w hb hr hl hs ht f0 f1 f2 f3 hcut op a b2 cc n hd hm hj
     | false =>
      have hk : op = 1 ∨ op = 2 ∨ op = 3 ∨ op = 4 ∨ op = 5 ∨ op = 6 ∨ op = 7 ∨ op = 8 ∨ op = 9 ∨ op = 10 ∨ op = 11 ∨ op = 12 ∨ op = 13 ∨ op = 14 ∨ op = 15 ∨ op = 16 ∨ op = 17 ∨ op = 18 ∨ op = 19 ∨ op = 20 ∨ op = 21 := by omega
      have G : ∀ q, does ⟨op, a, b2, cc, (n : Nat)⟩ p = some q → op ≠ 20 → Calls Tryz.prog 230 #[.agg (partC p (.slice A p.mem.length c))] w (RetStep w ({ q with pc := (p.pc + 4) % 4294967296 }) (-1) 0) → Calls Tryz.prog 230 #[.agg (partC p (.slice A p.mem.length c))] w (RetStep w (stepV p).1 (stepV p).2.1 (stepV p).2.2) := fun q h1 h2 h3 => by rw [stepV_does hs hfe hm hj h1, if_neg h2]; exact h3
      have B := may_bd hm
      have HB := hb.rb
      rcases hk with rfl | rfl | rfl | rfl | rfl | rfl | rfl | rfl | rfl | rfl | rfl | rfl | rfl | rfl | rfl | rfl | rfl | rfl | rfl | rfl | rfl
      ·exact G _ (does_1 p a b2 cc n) (by decide) (step_elG p A c w hb hr hl hs ht f0 f1 f2 f3 hcut 1 a b2 cc n hd hm hj (fun W => by kernel_rfl) (-1) rfl)
      ·exact G _ (does_2 p a b2 cc n) (by decide) (step_doG p A c w hb hr hl hs ht f0 f1 f2 f3 hcut 2 a b2 cc n hd hm hj 241 true _ (by decide) (fun W => by kernel_rfl) (enters_of Tryz.func241 (by kernel_rfl) rfl) (fun A2 c2 u hst => (set_ok w.heap.size p _ 2 a b2 cc n u hst.pb B.2.1 B.2.2.2.2).mono (fun e u' h => doAt hst rfl h)))
      ·exact G _ (does_3 p a b2 cc n) (by decide) (step_doG p A c w hb hr hl hs ht f0 f1 f2 f3 hcut 3 a b2 cc n hd hm hj 242 true _ (by decide) (fun W => by kernel_rfl) (enters_of Tryz.func242 (by kernel_rfl) rfl) (fun A2 c2 u hst => (high_ok w.heap.size p _ 3 a b2 cc n u hst.pb B.2.1 B.2.2.2.2 (p.g a) rfl (HB a)).mono (fun e u' h => doAt hst rfl h)))
      ·exact G _ (does_4 p a b2 cc n) (by decide) (step_mkG p A c w hb hr hl hs ht f0 f1 f2 f3 hcut 4 a b2 cc n hd hm hj 248 (by decide) (fun W => by kernel_rfl) (enters_of Tryz.func248 (by kernel_rfl) rfl) (fun x y u h1 h2 => mk_add x y u h1 h2))
      ·exact G _ (does_5 p a b2 cc n) (by decide) (step_mkG p A c w hb hr hl hs ht f0 f1 f2 f3 hcut 5 a b2 cc n hd hm hj 249 (by decide) (fun W => by kernel_rfl) (enters_of Tryz.func249 (by kernel_rfl) rfl) (fun x y u h1 h2 => mk_sub x y u h1 h2))
      ·exact G _ (does_6 p a b2 cc n) (by decide) (step_mkG p A c w hb hr hl hs ht f0 f1 f2 f3 hcut 6 a b2 cc n hd hm hj 250 (by decide) (fun W => by kernel_rfl) (enters_of Tryz.func250 (by kernel_rfl) rfl) (fun x y u h1 h2 => mk_mul x y u h1 h2))
      ·exact G _ (does_7 p a b2 cc n) (by decide) (step_mkG p A c w hb hr hl hs ht f0 f1 f2 f3 hcut 7 a b2 cc n hd hm hj 251 (by decide) (fun W => by kernel_rfl) (enters_of Tryz.func251 (by kernel_rfl) rfl) (fun x y u h1 h2 => mk_and x y u h1 h2))
      ·exact G _ (does_8 p a b2 cc n) (by decide) (step_mkG p A c w hb hr hl hs ht f0 f1 f2 f3 hcut 8 a b2 cc n hd hm hj 252 (by decide) (fun W => by kernel_rfl) (enters_of Tryz.func252 (by kernel_rfl) rfl) (fun x y u h1 h2 => mk_or x y u h1 h2))
      ·exact G _ (does_9 p a b2 cc n) (by decide) (step_mkG p A c w hb hr hl hs ht f0 f1 f2 f3 hcut 9 a b2 cc n hd hm hj 253 (by decide) (fun W => by kernel_rfl) (enters_of Tryz.func253 (by kernel_rfl) rfl) (fun x y u h1 h2 => mk_xor x y u h1 h2))
      ·exact G _ (does_10 p a b2 cc n) (by decide) (step_mkG p A c w hb hr hl hs ht f0 f1 f2 f3 hcut 10 a b2 cc n hd hm hj 254 (by decide) (fun W => by kernel_rfl) (enters_of Tryz.func254 (by kernel_rfl) rfl) (fun x y u h1 h2 => mk_shl x y u h1 h2))
      ·exact G _ (does_11 p a b2 cc n) (by decide) (step_mkG p A c w hb hr hl hs ht f0 f1 f2 f3 hcut 11 a b2 cc n hd hm hj 255 (by decide) (fun W => by kernel_rfl) (enters_of Tryz.func255 (by kernel_rfl) rfl) (fun x y u h1 h2 => mk_shr x y u h1 h2))
      ·exact G _ (does_12 p a b2 cc n) (by decide) (step_mkG p A c w hb hr hl hs ht f0 f1 f2 f3 hcut 12 a b2 cc n hd hm hj 256 (by decide) (fun W => by kernel_rfl) (enters_of Tryz.func256 (by kernel_rfl) rfl) (fun x y u h1 h2 => mk_less x y u))
      ·cases hth : there p.mem (p.g b2 + n) 1 with
       | true =>
        obtain ⟨xb, hxb1⟩ := cut_one p.mem (p.g b2 + n) (there_yes hth).2
        refine G _ (does_13 p a b2 cc n hth) (by decide) ?_
        rw [show num32 (cut p.mem (p.g b2 + n) 1) = xb.toNat by rw [hxb1]; simp [num32]]
        exact step_doG p A c w hb hr hl hs ht f0 f1 f2 f3 hcut 13 a b2 cc n hd hm hj 243 true _ (by decide) (fun W => by kernel_rfl) (enters_of Tryz.func243 (by kernel_rfl) rfl) (fun A2 c2 u hst => (loadByte_yes w.heap.size p A2 p.mem c2 13 a b2 cc n (p.g b2) u hst.pb hst.own.rd hst.h1 hst.h2 B.2.1 B.2.2.1 B.2.2.2.2 rfl (HB b2) hth xb hxb1).mono (fun e u' h => doAt hst rfl h))
       | false =>
        rw [stepV_fail hs hfe hm hj (does_13n p a b2 cc n hth)]
        exact step_doG p A c w hb hr hl hs ht f0 f1 f2 f3 hcut 13 a b2 cc n hd hm hj 243 false p (by decide) (fun W => by kernel_rfl) (enters_of Tryz.func243 (by kernel_rfl) rfl) (fun A2 c2 u hst => (loadByte_no w.heap.size p A2 p.mem c2 13 a b2 cc n (p.g b2) u hst.pb hst.own.rd hst.h1 hst.h2 B.2.1 B.2.2.1 B.2.2.2.2 rfl (HB b2) hth).mono (fun e u' h => doNo hst h))
      ·cases hth : there p.mem (p.g b2 + n) 1 with
       | true =>
        exact G _ (does_14 p a b2 cc n hth) (by decide) (step_doG p A c w hb hr hl hs ht f0 f1 f2 f3 hcut 14 a b2 cc n hd hm hj 244 true _ (by decide) (fun W => by kernel_rfl) (enters_of Tryz.func244 (by kernel_rfl) rfl) (fun A2 c2 u hst => (storeByte_yes w.heap.size p A2 p.mem c2 14 a b2 cc n (p.g b2) u hst.pb hst.own.rd hst.h1 hst.h2 B.2.1 B.2.2.1 B.2.2.2.2 rfl (HB b2) (p.g a) rfl (HB a) hth).mono (fun e u' h => doMem hst (put_len (by simpa using (there_yes hth).2)) h)))
       | false =>
        rw [stepV_fail hs hfe hm hj (does_14n p a b2 cc n hth)]
        exact step_doG p A c w hb hr hl hs ht f0 f1 f2 f3 hcut 14 a b2 cc n hd hm hj 244 false p (by decide) (fun W => by kernel_rfl) (enters_of Tryz.func244 (by kernel_rfl) rfl) (fun A2 c2 u hst => (storeByte_no w.heap.size p A2 p.mem c2 14 a b2 cc n (p.g b2) u hst.pb hst.own.rd hst.h1 hst.h2 B.2.1 B.2.2.1 B.2.2.2.2 rfl (HB b2) (p.g a) rfl (HB a) hth).mono (fun e u' h => doNo hst h))
      ·cases hth : there p.mem (p.g b2 + n) 4 with
       | true =>
        exact G _ (does_15 p a b2 cc n hth) (by decide) (step_doG p A c w hb hr hl hs ht f0 f1 f2 f3 hcut 15 a b2 cc n hd hm hj 245 true _ (by decide) (fun W => by kernel_rfl) (enters_of Tryz.func245 (by kernel_rfl) rfl) (fun A2 c2 u hst => (loadWord_yes w.heap.size p A2 p.mem c2 15 a b2 cc n (p.g b2) u hst.pb hst.own.rd hst.h1 hst.h2 B.2.1 B.2.2.1 B.2.2.2.2 rfl (HB b2) hth).mono (fun e u' h => doAt hst rfl h)))
       | false =>
        rw [stepV_fail hs hfe hm hj (does_15n p a b2 cc n hth)]
        exact step_doG p A c w hb hr hl hs ht f0 f1 f2 f3 hcut 15 a b2 cc n hd hm hj 245 false p (by decide) (fun W => by kernel_rfl) (enters_of Tryz.func245 (by kernel_rfl) rfl) (fun A2 c2 u hst => (loadWord_no w.heap.size p A2 p.mem c2 15 a b2 cc n (p.g b2) u hst.pb hst.own.rd hst.h1 hst.h2 B.2.1 B.2.2.1 B.2.2.2.2 rfl (HB b2) hth).mono (fun e u' h => doNo hst h))
      ·cases hth : there p.mem (p.g b2 + n) 4 with
       | true =>
        exact G _ (does_16 p a b2 cc n hth) (by decide) (step_doG p A c w hb hr hl hs ht f0 f1 f2 f3 hcut 16 a b2 cc n hd hm hj 246 true _ (by decide) (fun W => by kernel_rfl) (enters_of Tryz.func246 (by kernel_rfl) rfl) (fun A2 c2 u hst => (storeWord_yes w.heap.size p A2 p.mem c2 16 a b2 cc n (p.g b2) u hst.pb hst.own.rd hst.h1 hst.h2 B.2.1 B.2.2.1 B.2.2.2.2 rfl (HB b2) (p.g a) rfl (HB a) hth).mono (fun e u' h => doMem hst (put_len (by simpa [word32] using (there_yes hth).2)) h)))
       | false =>
        rw [stepV_fail hs hfe hm hj (does_16n p a b2 cc n hth)]
        exact step_doG p A c w hb hr hl hs ht f0 f1 f2 f3 hcut 16 a b2 cc n hd hm hj 246 false p (by decide) (fun W => by kernel_rfl) (enters_of Tryz.func246 (by kernel_rfl) rfl) (fun A2 c2 u hst => (storeWord_no w.heap.size p A2 p.mem c2 16 a b2 cc n (p.g b2) u hst.pb hst.own.rd hst.h1 hst.h2 B.2.1 B.2.2.1 B.2.2.2.2 rfl (HB b2) (p.g a) rfl (HB a) hth).mono (fun e u' h => doNo hst h))
      ·exfalso; simp [jumpsB] at hj
      ·exact G _ (does_18 p a b2 cc n) (by decide) (step_elG p A c w hb hr hl hs ht f0 f1 f2 f3 hcut 18 a b2 cc n hd hm hj (fun W => by kernel_rfl) (-1) rfl)
      ·exact G _ (does_19 p a b2 cc n) (by decide) (step_elG p A c w hb hr hl hs ht f0 f1 f2 f3 hcut 19 a b2 cc n hd hm hj (fun W => by kernel_rfl) (-1) rfl)
      ·rw [stepV_does hs hfe hm hj (does_20 p a b2 cc n), if_pos rfl]
       exact step_elG p A c w hb hr hl hs ht f0 f1 f2 f3 hcut 20 a b2 cc n hd hm hj (fun W => by kernel_rfl) n rfl
      ·exact G _ (does_21 p a b2 cc n) (by decide) (step_doG p A c w hb hr hl hs ht f0 f1 f2 f3 hcut 21 a b2 cc n hd hm hj 247 true _ (by decide) (fun W => by kernel_rfl) (enters_of Tryz.func247 (by kernel_rfl) rfl) (fun A2 c2 u hst => (move_ok w.heap.size p _ 21 a b2 cc n u hst.pb B.2.1 B.2.2.1).mono (fun e u' h => doAt hst rfl h)))
 ·rw [stepV_stop hs]
  exact step_stop p A c w hb hr hl hs
end
end Go.Proofs.YtmnaleaghfbclaaGreatDoor
