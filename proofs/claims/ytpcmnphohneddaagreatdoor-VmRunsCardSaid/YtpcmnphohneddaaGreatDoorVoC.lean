/- The document's answer of layer 20 (citadelref20): Step where it stops. (Written by wip/gen_vob.py.) -/
import Derived.Test.YtpcmnphohneddaaGreatDoorVoB
import Derived.Test.YtpcmnphohneddaaGreatDoorRiB
namespace Go.Proofs.YtpcmnphohneddaaGreatDoor
open Go.RowKit
set_option linter.unusedVariables false

set_option maxRecDepth 100000 in
set_option maxHeartbeats 8000000 in
theorem rStep_stop (p : Pt) (A : Option Addr) (c : Nat) (w : World) (hb : p.Bd) (hr : Rd w A p.mem) (hl : p.mem.length ≤ 1000000) (hs : p.st ≠ 0) :
    Calls Tryz.prog 10 #[.agg (partC p (.slice A p.mem.length c))] w (RetStep w (p) (-1) (2)) := by
  have h8 := hb.r8
  have HBd := Lib.hid hb
  obtain ⟨C, hC⟩ : ∃ C, partC p (.slice A p.mem.length c) = C := ⟨_, rfl⟩
  have hsz : C.size = 14 := by rw [← hC]; exact partC_size h8 _
  have hcp := fun W hrW => rCopied_ok p A p.mem c W h8 hrW hl
  rw [hC] at hcp ⊢
  have HCp := Lib.hid hcp
  have HR := Lib.hid hr
  clear hcp hC hr hb
  go_enter Tryz.func10, Tryz.ntmps10
  go_wp2_with (first
    | (refine sel (some 26) (.load _ (.tmp 1)) ?_; refine Vm_stop ?_))
  refine HoleV.mk ?_
  refine wpList_load_row rfl 26 (.tmp 1) rfl w.heap.size rfl 26 C (0, 0) _ (al_2_0 w _ _) Tryz.underlying26 rfl (by rw [hsz]; exact info_part) ?_
  go_wp2_with fail
  refine (HCp.out _ (HR.out.non (((Chg.refl Non w).alloc _).alloc _))).mono ?_
  rintro e w1 ⟨A2, c2, rfl, q1, q2, q3, q4⟩
  have HBy := Lib.hid (blockN q4 (al_2_1 w (.cells C 26) (.cells zeroPart 26)))
  have hlo : ∀ b' o', A2 = some ⟨b', o', none⟩ → p.mem ≠ [] → b' ≠ w1.heap.size := fun b' o' e1 e2 => Nat.ne_of_lt (rd_lt q3.rd b' o' e1 e2)
  have HLo := Lib.hid hlo
  have HO := Lib.hid (q3.mono (show w.heap.size + 2 ≤ _ by simp))
  have HG := Lib.hid ((((Chg.refl Non w).alloc _).alloc _).then_non q4)
  have hge : w.heap.size + 2 ≤ w1.heap.size := by have := q4.size; simpa using this
  clear q3 q4 hlo
  go_wp2_with (first
    | (refine sel none (.store _ (.tmp 5) (.tmp 27)) ?_; refine Vm_stop ?_))
  refine HoleV.mk ?_
  refine wpList_store_rowA rfl 26 (.tmp 5) (.tmp 27) rfl w1.heap.size (partC p (.slice A2 p.mem.length c2)) rfl rfl 26 zeroPart (heap_alloc_new w1 _) (by rw [partC_size h8]; exact info_part) (by rw [partC_size h8]; rfl) (partC_one _ _ rfl) ?_
  intro w2 hg2 hb2
  have hgn : Chg Non w1 w2 := ((Chg.refl Non w1).alloc (.cells zeroPart 26)).then_new hg2 (fun x e => by omega)
  have hst0 : StR w w2 w1.heap.size p A2 c2 := ⟨⟨hb2, h8⟩, blockN hgn HBy.out, HO.out.non hgn, HLo.out, HG.out.then_non hgn, hge, q1, q2⟩
  obtain ⟨b, hbb⟩ : ∃ b, w1.heap.size = b := ⟨_, rfl⟩
  rw [hbb] at hst0 ⊢
  have HS := Lib.hid hst0
  have c12 := hst0.pb.cells.2.2.2.2.1
  clear hg2 hb2 hst0 hgn hbb hge
  have hsb : ((p.st : Int) != 0) = true := by rw [bne_iff_ne]; omega
  go_wp2_with (first
    | (refine sel (some 31) (.load _ (.tmp 5)) ?_; refine Vm_stop ?_))
  refine HoleV.mk ?_
  refine wpList_load_row rfl 26 (.tmp 5) rfl b rfl 26 _ (0, 0) _ HS.out.pb.out Tryz.underlying26 rfl (by rw [partC_size HS.out.pb.len]; exact info_part) ?_
  go_wp2_with (first
    | (refine sel none (.store _ (.tmp 2) (.tmp 31)) ?_; refine Vm_stop ?_))
  refine HoleV.mk ?_
  refine wpList_store_rowA rfl 26 (.tmp 2) (.tmp 31) rfl (w.heap.size + 1) _ rfl rfl 26 zeroPart HS.out.rb (by rw [partC_size HS.out.pb.len]; exact info_part) (by rw [partC_size HS.out.pb.len]; rfl) (partC_one _ _ rfl) ?_
  intro WR hgR hbR
  have HBR := Lib.hid hbR
  have HGR := Lib.hid hgR
  clear hbR hgR
  go_wp2_with fail
  refine bodyPost_ret (results_ctt Tryz.results10 _ _ (w.heap.size + 1) 26 _ (0, 0) _ (.int .i64 (-1)) (.int .i64 (2)) rfl rfl rfl HBR.out Tryz.underlying26 rfl (by rw [partC_size HS.out.pb.len]; exact info_part)) rfl ?_
  exact ⟨_, _, rfl, HS.out.h1, HS.out.h2, (HS.out.own.keep HGR.out (fun b o e1 e2 e3 e4 => by omega)).mono (by omega), HS.out.chg.then_new HGR.out (fun x e => by omega)⟩
set_option maxRecDepth 100000 in
set_option maxHeartbeats 8000000 in
theorem rStep_nofetch (p : Pt) (A : Option Addr) (c : Nat) (w : World) (hb : p.Bd) (hr : Rd w A p.mem) (hl : p.mem.length ≤ 1000000) (hs : p.st = 0) (ht : there p.mem p.pc 4 = false) :
    Calls Tryz.prog 10 #[.agg (partC p (.slice A p.mem.length c))] w (RetStep w ({ p with st := 3 }) (-1) (0)) := by
  have HT := Lib.hid ht
  clear ht
  have h8 := hb.r8
  have HBd := Lib.hid hb
  obtain ⟨C, hC⟩ : ∃ C, partC p (.slice A p.mem.length c) = C := ⟨_, rfl⟩
  have hsz : C.size = 14 := by rw [← hC]; exact partC_size h8 _
  have hcp := fun W hrW => rCopied_ok p A p.mem c W h8 hrW hl
  rw [hC] at hcp ⊢
  have HCp := Lib.hid hcp
  have HR := Lib.hid hr
  clear hcp hC hr hb
  go_enter Tryz.func10, Tryz.ntmps10
  go_wp2_with (first
    | (refine sel (some 26) (.load _ (.tmp 1)) ?_; refine Vm_stop ?_))
  refine HoleV.mk ?_
  refine wpList_load_row rfl 26 (.tmp 1) rfl w.heap.size rfl 26 C (0, 0) _ (al_2_0 w _ _) Tryz.underlying26 rfl (by rw [hsz]; exact info_part) ?_
  go_wp2_with fail
  refine (HCp.out _ (HR.out.non (((Chg.refl Non w).alloc _).alloc _))).mono ?_
  rintro e w1 ⟨A2, c2, rfl, q1, q2, q3, q4⟩
  have HBy := Lib.hid (blockN q4 (al_2_1 w (.cells C 26) (.cells zeroPart 26)))
  have hlo : ∀ b' o', A2 = some ⟨b', o', none⟩ → p.mem ≠ [] → b' ≠ w1.heap.size := fun b' o' e1 e2 => Nat.ne_of_lt (rd_lt q3.rd b' o' e1 e2)
  have HLo := Lib.hid hlo
  have HO := Lib.hid (q3.mono (show w.heap.size + 2 ≤ _ by simp))
  have HG := Lib.hid ((((Chg.refl Non w).alloc _).alloc _).then_non q4)
  have hge : w.heap.size + 2 ≤ w1.heap.size := by have := q4.size; simpa using this
  clear q3 q4 hlo
  go_wp2_with (first
    | (refine sel none (.store _ (.tmp 5) (.tmp 27)) ?_; refine Vm_stop ?_))
  refine HoleV.mk ?_
  refine wpList_store_rowA rfl 26 (.tmp 5) (.tmp 27) rfl w1.heap.size (partC p (.slice A2 p.mem.length c2)) rfl rfl 26 zeroPart (heap_alloc_new w1 _) (by rw [partC_size h8]; exact info_part) (by rw [partC_size h8]; rfl) (partC_one _ _ rfl) ?_
  intro w2 hg2 hb2
  have hgn : Chg Non w1 w2 := ((Chg.refl Non w1).alloc (.cells zeroPart 26)).then_new hg2 (fun x e => by omega)
  have hst0 : StR w w2 w1.heap.size p A2 c2 := ⟨⟨hb2, h8⟩, blockN hgn HBy.out, HO.out.non hgn, HLo.out, HG.out.then_non hgn, hge, q1, q2⟩
  obtain ⟨b, hbb⟩ : ∃ b, w1.heap.size = b := ⟨_, rfl⟩
  rw [hbb] at hst0 ⊢
  have HS := Lib.hid hst0
  have c12 := hst0.pb.cells.2.2.2.2.1
  clear hg2 hb2 hst0 hgn hbb hge
  have c12' : w2.cell? ⟨b, 12, none⟩ = some (.int .u8 0) := by rw [hs] at c12; exact c12
  have c11 := HS.out.pb.cells.2.2.2.1
  have c13 := HS.out.pb.cells.2.2.2.2.2
  have hwp : IntKind.i64.wrap (p.pc : Int) = p.pc := Go.IntWalk.i64_in _ (by have := HBd.out.pcb; omega)
  clear c12 hs
  go_wp2_with fail
  refine (rRead_no A2 p.mem c2 p.pc 4 _ (by omega) (by have := HBd.out.pcb; omega) HT.out).mono ?_
  rintro e y1 ⟨er, hern, her0, rfl, rfl⟩
  have hlt := HS.out.pb.lt
  have hf := HS.out.pb.frozen 12
  have HS2 := Lib.hid (HS.out.at (setAt w2 b 12 (.int .u8 3)) (HS.out.pb.setSt 3) rfl)
  go_wp2_with (first
    | (refine sel (some 44) (.load _ (.tmp 5)) ?_; refine Vm_stop ?_))
  refine HoleV.mk ?_
  refine wpList_load_row rfl 26 (.tmp 5) rfl b rfl 26 _ (0, 0) _ HS2.out.pb.out Tryz.underlying26 rfl (by rw [partC_size HS2.out.pb.len]; exact info_part) ?_
  go_wp2_with (first
    | (refine sel none (.store _ (.tmp 2) (.tmp 44)) ?_; refine Vm_stop ?_))
  refine HoleV.mk ?_
  refine wpList_store_rowA rfl 26 (.tmp 2) (.tmp 44) rfl (w.heap.size + 1) _ rfl rfl 26 zeroPart HS2.out.rb (by rw [partC_size HS2.out.pb.len]; exact info_part) (by rw [partC_size HS2.out.pb.len]; rfl) (partC_one _ _ rfl) ?_
  intro WR hgR hbR
  have HBR := Lib.hid hbR
  have HGR := Lib.hid hgR
  clear hbR hgR
  go_wp2_with fail
  refine bodyPost_ret (results_ctt Tryz.results10 _ _ (w.heap.size + 1) 26 _ (0, 0) _ (.int .i64 (-1)) (.int .i64 (0)) rfl rfl rfl HBR.out Tryz.underlying26 rfl (by rw [partC_size HS2.out.pb.len]; exact info_part)) rfl ?_
  exact ⟨_, _, rfl, HS2.out.h1, HS2.out.h2, (HS2.out.own.keep HGR.out (fun b o e1 e2 e3 e4 => by omega)).mono (by omega), HS2.out.chg.then_new HGR.out (fun x e => by omega)⟩
set_option maxRecDepth 100000 in
set_option maxHeartbeats 8000000 in
theorem rStep_badop (p : Pt) (A : Option Addr) (c : Nat) (w : World) (hb : p.Bd) (hr : Rd w A p.mem) (hl : p.mem.length ≤ 1000000) (hs : p.st = 0) (ht : there p.mem p.pc 4 = true) (f0 f1 f2 f3 : UInt8) (hcut : cut p.mem p.pc 4 = [f0, f1, f2, f3]) (hm : mayB (decI f0.toNat f1.toNat f2.toNat f3.toNat) = false) :
    Calls Tryz.prog 10 #[.agg (partC p (.slice A p.mem.length c))] w (RetStep w ({ p with st := 2 }) (-1) (0)) := by
  have HT := Lib.hid ht
  have HM := Lib.hid hm
  have HF4 : Hid (Four (f0.toNat, f1.toNat, f2.toNat, f3.toNat)) := Lib.hid ⟨f0.toNat_lt, f1.toNat_lt, f2.toNat_lt, f3.toNat_lt⟩
  clear ht hm
  have h8 := hb.r8
  have HBd := Lib.hid hb
  obtain ⟨C, hC⟩ : ∃ C, partC p (.slice A p.mem.length c) = C := ⟨_, rfl⟩
  have hsz : C.size = 14 := by rw [← hC]; exact partC_size h8 _
  have hcp := fun W hrW => rCopied_ok p A p.mem c W h8 hrW hl
  rw [hC] at hcp ⊢
  have HCp := Lib.hid hcp
  have HR := Lib.hid hr
  clear hcp hC hr hb
  go_enter Tryz.func10, Tryz.ntmps10
  go_wp2_with (first
    | (refine sel (some 26) (.load _ (.tmp 1)) ?_; refine Vm_stop ?_))
  refine HoleV.mk ?_
  refine wpList_load_row rfl 26 (.tmp 1) rfl w.heap.size rfl 26 C (0, 0) _ (al_2_0 w _ _) Tryz.underlying26 rfl (by rw [hsz]; exact info_part) ?_
  go_wp2_with fail
  refine (HCp.out _ (HR.out.non (((Chg.refl Non w).alloc _).alloc _))).mono ?_
  rintro e w1 ⟨A2, c2, rfl, q1, q2, q3, q4⟩
  have HBy := Lib.hid (blockN q4 (al_2_1 w (.cells C 26) (.cells zeroPart 26)))
  have hlo : ∀ b' o', A2 = some ⟨b', o', none⟩ → p.mem ≠ [] → b' ≠ w1.heap.size := fun b' o' e1 e2 => Nat.ne_of_lt (rd_lt q3.rd b' o' e1 e2)
  have HLo := Lib.hid hlo
  have HO := Lib.hid (q3.mono (show w.heap.size + 2 ≤ _ by simp))
  have HG := Lib.hid ((((Chg.refl Non w).alloc _).alloc _).then_non q4)
  have hge : w.heap.size + 2 ≤ w1.heap.size := by have := q4.size; simpa using this
  clear q3 q4 hlo
  go_wp2_with (first
    | (refine sel none (.store _ (.tmp 5) (.tmp 27)) ?_; refine Vm_stop ?_))
  refine HoleV.mk ?_
  refine wpList_store_rowA rfl 26 (.tmp 5) (.tmp 27) rfl w1.heap.size (partC p (.slice A2 p.mem.length c2)) rfl rfl 26 zeroPart (heap_alloc_new w1 _) (by rw [partC_size h8]; exact info_part) (by rw [partC_size h8]; rfl) (partC_one _ _ rfl) ?_
  intro w2 hg2 hb2
  have hgn : Chg Non w1 w2 := ((Chg.refl Non w1).alloc (.cells zeroPart 26)).then_new hg2 (fun x e => by omega)
  have hst0 : StR w w2 w1.heap.size p A2 c2 := ⟨⟨hb2, h8⟩, blockN hgn HBy.out, HO.out.non hgn, HLo.out, HG.out.then_non hgn, hge, q1, q2⟩
  obtain ⟨b, hbb⟩ : ∃ b, w1.heap.size = b := ⟨_, rfl⟩
  rw [hbb] at hst0 ⊢
  have HS := Lib.hid hst0
  have c12 := hst0.pb.cells.2.2.2.2.1
  clear hg2 hb2 hst0 hgn hbb hge
  have c12' : w2.cell? ⟨b, 12, none⟩ = some (.int .u8 0) := by rw [hs] at c12; exact c12
  have c11 := HS.out.pb.cells.2.2.2.1
  have c13 := HS.out.pb.cells.2.2.2.2.2
  have hwp : IntKind.i64.wrap (p.pc : Int) = p.pc := Go.IntWalk.i64_in _ (by have := HBd.out.pcb; omega)
  clear c12 hs
  go_wp2_with fail
  have hrd := rRead_yes A2 p.mem c2 p.pc 4 w2 HS.out.own.rd (by omega) (by omega) HT.out
  rw [hcut] at hrd
  refine hrd.mono ?_
  rintro e y1 ⟨A3, c3, rfl, k1, k2, k3, k4⟩
  obtain ⟨b3, o3, rfl, _, hc3⟩ := k3.rd.at_ (by simp)
  have d0 := hc3 0 (by simp)
  have d1 := hc3 1 (by simp)
  have d2 := hc3 2 (by simp)
  have d3 := hc3 3 (by simp)
  simp only [Nat.add_zero, List.getElem_cons_zero, List.getElem_cons_succ] at d0 d1 d2 d3
  have HS := Lib.hid (HS.out.non k4)
  clear hc3 k3 k4 hrd c12' c11 c13
  go_wp2_with fail
  apply wp_cutB (α := Nat) (f := fun ob x => (((((((((((((((((((x.put (some 46) (.slice (some ⟨b3, o3, none⟩) 4 c3)).put (some 47) (.pointer (some ⟨b3, o3, none⟩))).put (some 48) (.int .u8 f0.toNat)).put (some 49) (.slice (some ⟨b3, o3, none⟩) 4 c3)).put (some 50) (.pointer (some ⟨b3, o3 + 1, none⟩))).put (some 51) (.int .u8 f1.toNat)).put (some 52) (.slice (some ⟨b3, o3, none⟩) 4 c3)).put (some 53) (.pointer (some ⟨b3, o3 + 2, none⟩))).put (some 54) (.int .u8 f2.toNat)).put (some 55) (.slice (some ⟨b3, o3, none⟩) 4 c3)).put (some 56) (.pointer (some ⟨b3, o3 + 3, none⟩))).put (some 57) (.int .u8 f3.toNat)).put (some 58) (.agg #[.int .u8 f0.toNat, .int .u8 f1.toNat, .int .u8 f2.toNat, .int .u8 f3.toNat])).put (some 59) (.tuple #[.agg #[.int .u8 0, .int .u8 0, .int .u8 0, .int .u8 0, .int .i64 0], .int .i64 190])).put (some 45) (.tuple #[.agg #[.int .u8 0, .int .u8 0, .int .u8 0, .int .u8 0, .int .i64 0], .int .i64 190])).put (some 60) (.agg #[.int .u8 0, .int .u8 0, .int .u8 0, .int .u8 0, .int .i64 0])).put (some 61) (.int .i64 190)).put (some 8) (.pointer (some ⟨ob, 0, none⟩))).put (some 9) (.int .i64 190))) (R := fun ob v => v.heap[ob]? = some (.cells #[.int .u8 0, .int .u8 0, .int .u8 0, .int .u8 0, .int .i64 0] 58 (0, 0)) ∧ Chg Non y1 v ∧ y1.heap.size ≤ ob)
  · refine wp_region_held_drew (S := fun W => Chg Non y1 W) (by kernel_rfl) ((Chg.refl Non _).drew) (fun hHeld => ?_)
    clear hHeld
    refine h_pure 0 (some 46) (.slice (some ⟨b3, o3, none⟩) 4 c3) rfl (by kernel_rfl) (by kernel_rfl) (by kernel_rfl) (by kernel_rfl) (fun _ _ _ h => absurd h.1 (by simp)) (by kernel_rfl) (fun W hW => by go_simp) ((Chg.refl Non _).drew) ?_
    simp only [Act.put, List.setIfInBounds_toArray, List.set_cons_zero, List.set_cons_succ]
    refine h_pure 1 (some 47) (.pointer (some ⟨b3, o3, none⟩)) rfl (by kernel_rfl) (by kernel_rfl) (by kernel_rfl) (by kernel_rfl) (fun _ _ _ h => absurd h.1 (by simp)) (by kernel_rfl) (fun W hW => by go_simp) ((Chg.refl Non _).drew) ?_
    simp only [Act.put, List.setIfInBounds_toArray, List.set_cons_zero, List.set_cons_succ]
    refine h_pure 2 (some 48) (.int .u8 f0.toNat) rfl (by kernel_rfl) (by kernel_rfl) (by kernel_rfl) (by kernel_rfl) (fun _ _ _ h => absurd h.1 (by simp)) (by kernel_rfl) (fun W hW => by have hq := hW.cell_some d0 (fun e => e); go_simp) ((Chg.refl Non _).drew) ?_
    simp only [Act.put, List.setIfInBounds_toArray, List.set_cons_zero, List.set_cons_succ]
    refine h_pure 3 (some 49) (.slice (some ⟨b3, o3, none⟩) 4 c3) rfl (by kernel_rfl) (by kernel_rfl) (by kernel_rfl) (by kernel_rfl) (fun _ _ _ h => absurd h.1 (by simp)) (by kernel_rfl) (fun W hW => by go_simp) ((Chg.refl Non _).drew) ?_
    simp only [Act.put, List.setIfInBounds_toArray, List.set_cons_zero, List.set_cons_succ]
    refine h_pure 4 (some 50) (.pointer (some ⟨b3, o3 + 1, none⟩)) rfl (by kernel_rfl) (by kernel_rfl) (by kernel_rfl) (by kernel_rfl) (fun _ _ _ h => absurd h.1 (by simp)) (by kernel_rfl) (fun W hW => by go_simp) ((Chg.refl Non _).drew) ?_
    simp only [Act.put, List.setIfInBounds_toArray, List.set_cons_zero, List.set_cons_succ]
    refine h_pure 5 (some 51) (.int .u8 f1.toNat) rfl (by kernel_rfl) (by kernel_rfl) (by kernel_rfl) (by kernel_rfl) (fun _ _ _ h => absurd h.1 (by simp)) (by kernel_rfl) (fun W hW => by have hq := hW.cell_some d1 (fun e => e); go_simp) ((Chg.refl Non _).drew) ?_
    simp only [Act.put, List.setIfInBounds_toArray, List.set_cons_zero, List.set_cons_succ]
    refine h_pure 6 (some 52) (.slice (some ⟨b3, o3, none⟩) 4 c3) rfl (by kernel_rfl) (by kernel_rfl) (by kernel_rfl) (by kernel_rfl) (fun _ _ _ h => absurd h.1 (by simp)) (by kernel_rfl) (fun W hW => by go_simp) ((Chg.refl Non _).drew) ?_
    simp only [Act.put, List.setIfInBounds_toArray, List.set_cons_zero, List.set_cons_succ]
    refine h_pure 7 (some 53) (.pointer (some ⟨b3, o3 + 2, none⟩)) rfl (by kernel_rfl) (by kernel_rfl) (by kernel_rfl) (by kernel_rfl) (fun _ _ _ h => absurd h.1 (by simp)) (by kernel_rfl) (fun W hW => by go_simp) ((Chg.refl Non _).drew) ?_
    simp only [Act.put, List.setIfInBounds_toArray, List.set_cons_zero, List.set_cons_succ]
    refine h_pure 8 (some 54) (.int .u8 f2.toNat) rfl (by kernel_rfl) (by kernel_rfl) (by kernel_rfl) (by kernel_rfl) (fun _ _ _ h => absurd h.1 (by simp)) (by kernel_rfl) (fun W hW => by have hq := hW.cell_some d2 (fun e => e); go_simp) ((Chg.refl Non _).drew) ?_
    simp only [Act.put, List.setIfInBounds_toArray, List.set_cons_zero, List.set_cons_succ]
    refine h_pure 9 (some 55) (.slice (some ⟨b3, o3, none⟩) 4 c3) rfl (by kernel_rfl) (by kernel_rfl) (by kernel_rfl) (by kernel_rfl) (fun _ _ _ h => absurd h.1 (by simp)) (by kernel_rfl) (fun W hW => by go_simp) ((Chg.refl Non _).drew) ?_
    simp only [Act.put, List.setIfInBounds_toArray, List.set_cons_zero, List.set_cons_succ]
    refine h_pure 10 (some 56) (.pointer (some ⟨b3, o3 + 3, none⟩)) rfl (by kernel_rfl) (by kernel_rfl) (by kernel_rfl) (by kernel_rfl) (fun _ _ _ h => absurd h.1 (by simp)) (by kernel_rfl) (fun W hW => by go_simp) ((Chg.refl Non _).drew) ?_
    simp only [Act.put, List.setIfInBounds_toArray, List.set_cons_zero, List.set_cons_succ]
    refine h_pure 11 (some 57) (.int .u8 f3.toNat) rfl (by kernel_rfl) (by kernel_rfl) (by kernel_rfl) (by kernel_rfl) (fun _ _ _ h => absurd h.1 (by simp)) (by kernel_rfl) (fun W hW => by have hq := hW.cell_some d3 (fun e => e); go_simp) ((Chg.refl Non _).drew) ?_
    simp only [Act.put, List.setIfInBounds_toArray, List.set_cons_zero, List.set_cons_succ]
    refine h_pure 12 (some 58) (.agg #[.int .u8 f0.toNat, .int .u8 f1.toNat, .int .u8 f2.toNat, .int .u8 f3.toNat]) rfl (by kernel_rfl) (by kernel_rfl) (by kernel_rfl) (by kernel_rfl) (fun _ _ _ h => absurd h.1 (by simp)) (by kernel_rfl) (fun W hW => by go_simp) ((Chg.refl Non _).drew) ?_
    simp only [Act.put, List.setIfInBounds_toArray, List.set_cons_zero, List.set_cons_succ]
    refine h_two 13 17 (by kernel_rfl) rfl rfl (by kernel_rfl) (by kernel_rfl) ?_ ?_
    · intro K hK
      go_simp
      refine (rDec_n f0.toNat f1.toNat f2.toNat f3.toNat _ HF4.out HM.out).mono ?_
      rintro e u1 ⟨rfl, hg1⟩
      have HU1 := Lib.hid (((Chg.refl Non y1).drew).then_non hg1)
      have hsz := HU1.out.size
      clear hg1
      refine hK.out _ _ HU1.out (fun _ => ?_)
      clear hK K
      refine h_pure 14 (some 45) (.tuple #[.agg #[.int .u8 0, .int .u8 0, .int .u8 0, .int .u8 0, .int .i64 0], .int .i64 190]) rfl (by kernel_rfl) (by kernel_rfl) (by kernel_rfl) (by kernel_rfl) (fun _ _ _ h => absurd h.1 (by simp)) (by kernel_rfl) (fun W hW => by go_simp) HU1.out ?_
      simp only [Act.put, List.setIfInBounds_toArray, List.set_cons_zero, List.set_cons_succ]
      refine h_pure 15 (some 60) (.agg #[.int .u8 0, .int .u8 0, .int .u8 0, .int .u8 0, .int .i64 0]) rfl (by kernel_rfl) (by kernel_rfl) (by kernel_rfl) (by kernel_rfl) (fun _ _ _ h => absurd h.1 (by simp)) (by kernel_rfl) (fun W hW => by go_simp) HU1.out ?_
      simp only [Act.put, List.setIfInBounds_toArray, List.set_cons_zero, List.set_cons_succ]
      refine h_pure 16 (some 61) (.int .i64 190) rfl (by kernel_rfl) (by kernel_rfl) (by kernel_rfl) (by kernel_rfl) (fun _ _ _ h => absurd h.1 (by simp)) (by kernel_rfl) (fun W hW => by go_simp) HU1.out ?_
      simp only [Act.put, List.setIfInBounds_toArray, List.set_cons_zero, List.set_cons_succ]
      refine h_one 17 (by kernel_rfl) rfl (by kernel_rfl) ?_
      intro K hK
      go_simp
      refine hK.out _ _ (HU1.out.alloc _) (fun _ => ?_)
      clear hK K
      refine h_store 18 58 (.tmp 8) (.tmp 60) u1.heap.size #[.int .u8 0, .int .u8 0, .int .u8 0, .int .u8 0, .int .i64 0] (by kernel_rfl) rfl (by kernel_rfl) rfl rfl rfl rfl 58 ⟨#[.int .u8 0, .int .u8 0, .int .u8 0, .int .u8 0, .int .i64 0], heap_alloc_new _ _, rfl⟩ (by kernel_rfl) (by simp [Value.oneCell']) (fun W hg hb => (HU1.out.alloc _).then_new hg (fun x e => by have := e; omega)) ?_
      intro W hgW hbW
      refine h_pure 19 (some 9) (.int .i64 190) rfl (by kernel_rfl) (by kernel_rfl) (by kernel_rfl) (by kernel_rfl) (fun _ _ _ h => absurd h.1 (by simp)) (by kernel_rfl) (fun W hW => by go_simp) ((HU1.out.alloc _).then_new hgW (fun x e => by have := e; omega)) ?_
      simp only [Act.put, List.setIfInBounds_toArray, List.set_cons_zero, List.set_cons_succ]
      refine wpAnyH_done (by kernel_rfl) ?_ _
      exact ⟨rfl, u1.heap.size, by kernel_rfl, hbW, (HU1.out.alloc _).then_new hgW (fun x e => by have := e; omega), by omega⟩
    · intro K hK
      go_simp
      refine hK.out _ _ (((Chg.refl Non _).drew).alloc _) (fun _ => ?_)
      clear hK K
      refine h_one 13 (by kernel_rfl) rfl (by kernel_rfl) ?_
      intro K hK
      go_simp
      refine (rDec_n f0.toNat f1.toNat f2.toNat f3.toNat _ HF4.out HM.out).mono ?_
      rintro e u1 ⟨rfl, hg1⟩
      have HU1 := Lib.hid ((((Chg.refl Non y1).drew).alloc _).then_non hg1)
      have HB1 := Lib.hid (blockN hg1 (heap_alloc_new y1.drew _))
      have hyd : y1.drew.heap.size = y1.heap.size := rfl
      clear hg1
      refine hK.out _ _ HU1.out (fun _ => ?_)
      clear hK K
      refine h_pure 14 (some 45) (.tuple #[.agg #[.int .u8 0, .int .u8 0, .int .u8 0, .int .u8 0, .int .i64 0], .int .i64 190]) rfl (by kernel_rfl) (by kernel_rfl) (by kernel_rfl) (by kernel_rfl) (fun _ _ _ h => absurd h.1 (by simp)) (by kernel_rfl) (fun W hW => by go_simp) HU1.out ?_
      simp only [Act.put, List.setIfInBounds_toArray, List.set_cons_zero, List.set_cons_succ]
      refine h_pure 15 (some 60) (.agg #[.int .u8 0, .int .u8 0, .int .u8 0, .int .u8 0, .int .i64 0]) rfl (by kernel_rfl) (by kernel_rfl) (by kernel_rfl) (by kernel_rfl) (fun _ _ _ h => absurd h.1 (by simp)) (by kernel_rfl) (fun W hW => by go_simp) HU1.out ?_
      simp only [Act.put, List.setIfInBounds_toArray, List.set_cons_zero, List.set_cons_succ]
      refine h_pure 16 (some 61) (.int .i64 190) rfl (by kernel_rfl) (by kernel_rfl) (by kernel_rfl) (by kernel_rfl) (fun _ _ _ h => absurd h.1 (by simp)) (by kernel_rfl) (fun W hW => by go_simp) HU1.out ?_
      simp only [Act.put, List.setIfInBounds_toArray, List.set_cons_zero, List.set_cons_succ]
      refine h_store 18 58 (.tmp 8) (.tmp 60) y1.heap.size #[.int .u8 0, .int .u8 0, .int .u8 0, .int .u8 0, .int .i64 0] (by kernel_rfl) rfl (by kernel_rfl) rfl rfl rfl rfl 58 ⟨#[.int .u8 0, .int .u8 0, .int .u8 0, .int .u8 0, .int .i64 0], HB1.out, rfl⟩ (by kernel_rfl) (by simp [Value.oneCell']) (fun W hg hb => HU1.out.then_new hg (fun x e => by have := e; omega)) ?_
      intro W hgW hbW
      refine h_pure 19 (some 9) (.int .i64 190) rfl (by kernel_rfl) (by kernel_rfl) (by kernel_rfl) (by kernel_rfl) (fun _ _ _ h => absurd h.1 (by simp)) (by kernel_rfl) (fun W hW => by go_simp) (HU1.out.then_new hgW (fun x e => by have := e; omega)) ?_
      simp only [Act.put, List.setIfInBounds_toArray, List.set_cons_zero, List.set_cons_succ]
      refine wpAnyH_done (by kernel_rfl) ?_ _
      exact ⟨rfl, y1.heap.size, by kernel_rfl, hbW, HU1.out.then_new hgW (fun x e => by have := e; omega), by omega⟩
  rintro ob u ⟨hob, hgu, hle⟩
  simp only [Act.put, List.setIfInBounds_toArray, List.set_cons_zero, List.set_cons_succ]
  have HS3 := Lib.hid (HS.out.non hgu)
  have hobb : b < ob := by have := HS.out.pb.lt; omega
  clear d0 d1 d2 d3
  clear hob hgu
  have c12 := HS3.out.pb.cells.2.2.2.2.1
  have hlt := HS3.out.pb.lt
  have hf := HS3.out.pb.frozen 12
  have HS4 := Lib.hid (HS3.out.at (setAt u b 12 (.int .u8 2)) (HS3.out.pb.setSt 2) rfl)
  go_wp2_with (first
    | (refine sel (some 65) (.load _ (.tmp 5)) ?_; refine Vm_stop ?_))
  refine HoleV.mk ?_
  refine wpList_load_row rfl 26 (.tmp 5) rfl b rfl 26 _ (0, 0) _ HS4.out.pb.out Tryz.underlying26 rfl (by rw [partC_size HS4.out.pb.len]; exact info_part) ?_
  go_wp2_with (first
    | (refine sel none (.store _ (.tmp 2) (.tmp 65)) ?_; refine Vm_stop ?_))
  refine HoleV.mk ?_
  refine wpList_store_rowA rfl 26 (.tmp 2) (.tmp 65) rfl (w.heap.size + 1) _ rfl rfl 26 zeroPart HS4.out.rb (by rw [partC_size HS4.out.pb.len]; exact info_part) (by rw [partC_size HS4.out.pb.len]; rfl) (partC_one _ _ rfl) ?_
  intro WR hgR hbR
  have HBR := Lib.hid hbR
  have HGR := Lib.hid hgR
  clear hbR hgR
  go_wp2_with fail
  refine bodyPost_ret (results_ctt Tryz.results10 _ _ (w.heap.size + 1) 26 _ (0, 0) _ (.int .i64 (-1)) (.int .i64 (0)) rfl rfl rfl HBR.out Tryz.underlying26 rfl (by rw [partC_size HS4.out.pb.len]; exact info_part)) rfl ?_
  exact ⟨_, _, rfl, HS4.out.h1, HS4.out.h2, (HS4.out.own.keep HGR.out (fun b o e1 e2 e3 e4 => by omega)).mono (by omega), HS4.out.chg.then_new HGR.out (fun x e => by omega)⟩
end Go.Proofs.YtpcmnphohneddaaGreatDoor
