/- citadellaw20.awake; vm.Same of two that are the same. (Written by wip/merge_vm.py.) -/
import Derived.Test.YtpcmnphohneddaaGreatDoorIsaEq
import Derived.Test.YtpcmnphohneddaaGreatDoorVp4
namespace Go.Proofs.YtpcmnphohneddaaGreatDoor
open Go.RowKit
set_option linter.unusedVariables false

def RetS (w : World) (q : Pt) (N : Nat) (call er : Int) (e : Ending) (w' : World) : Prop :=
  ∃ A' c', e = .returned (.tuple #[.agg (partC q (.slice A' N c')), .int .i64 call, .int .i64 er]) ∧ Rd w' A' q.mem ∧ Chg Non w w'
theorem Step_v (p q : Pt) (call er : Int) (N : Nat) (A : Option Addr) (c : Nat) (w : World) (hv : (stepV p).1 = q) (hv1 : (stepV p).2.1 = call) (hv2 : ((stepV p).2.2 : Int) = er) (hN : p.mem.length = N) (hb : p.Bd) (hr : Rd w A p.mem) (hl : N ≤ 140737488355328) :
    Calls Tryz.prog 9 #[.agg (partC p (.slice A N c))] w (RetS w q N call er) := by
  subst hN
  refine (Step_ok p A c w hb hr hl).mono ?_
  rintro e w' ⟨A', c', he, _, _, ho, hg⟩
  rw [hv, hv1, hv2] at he
  rw [hv] at ho
  have hm : q.mem.length = p.mem.length := by rw [← hv]; exact step_mem p
  rw [hm] at he
  exact ⟨A', c', he, ho.rd, hg⟩
theorem rd_lt {w : World} {A : Option Addr} {l : List UInt8} (h : Rd w A l) : ∀ b o, A = some ⟨b, o, none⟩ → l ≠ [] → b < w.heap.size := by
  intro b o hA hl
  obtain ⟨b', o', e, hlt, _⟩ := h.at_ (List.length_pos_iff.2 hl)
  rw [hA] at e
  injection e with e
  injection e with e1 _ _
  omega
theorem onePt_bd (bs : List UInt8) : (onePt bs).Bd := by
  refine ⟨rfl, ?_, by show (0 : Nat) < 4294967296; omega, by show (0 : Nat) < 256; omega, ⟨by show -9223372036854775808 ≤ (1 : Int); omega, by show (1 : Int) ≤ 9223372036854775807; omega⟩, ⟨by show -9223372036854775808 ≤ (16 : Int); omega, by show (16 : Int) ≤ 9223372036854775807; omega⟩⟩
  intro i
  show [0, 0, 0, 0, 0, 0, 0, 0].getD i 0 < 4294967296
  match i with
  | 0 | 1 | 2 | 3 | 4 | 5 | 6 | 7 => show (0 : Nat) < 4294967296; omega
  | n + 8 => simp
theorem cd_0 : codeC [[115, 101, 116, 32, 49, 32, 51, 48, 48]] = some [2, 1, 1, 44] := by decide +kernel
theorem cd_1 : codeC [[97, 100, 100, 32, 48, 32, 49, 32, 50]] = some [4, 0, 1, 2] := by decide +kernel
theorem cd_2 : codeC [[106, 109, 112, 32, 54]] = some [17, 0, 0, 6] := by decide +kernel
theorem cd_3 : codeC [[99, 97, 108, 108, 32, 55]] = some [20, 0, 0, 7] := by decide +kernel
theorem cd_4 : codeC [[108, 119, 32, 48, 32, 49, 32, 48]] = some [15, 0, 1, 0] := by decide +kernel
theorem sv1_a : (stepV (onePt [2, 1, 1, 44])).2.1 = -1 := by decide +kernel
theorem sv2_a : ((stepV (onePt [2, 1, 1, 44])).2.2 : Int) = 0 := by decide +kernel
theorem sv1_b : (stepV (((onePt [4, 0, 1, 2]).set 1 4294967295).set 2 2)).2.1 = -1 := by decide +kernel
theorem sv2_b : ((stepV (((onePt [4, 0, 1, 2]).set 1 4294967295).set 2 2)).2.2 : Int) = 0 := by decide +kernel
theorem sv1_c : (stepV (onePt [17, 0, 0, 6])).2.1 = -1 := by decide +kernel
theorem sv2_c : ((stepV (onePt [17, 0, 0, 6])).2.2 : Int) = 0 := by decide +kernel
theorem sv1_d : (stepV (onePt [20, 0, 0, 7])).2.1 = 7 := by decide +kernel
theorem sv2_d : ((stepV (onePt [20, 0, 0, 7])).2.2 : Int) = 0 := by decide +kernel
theorem sv1_f : (stepV ((onePt [15, 0, 1, 0]).set 1 13)).2.1 = -1 := by decide +kernel
theorem sv2_f : ((stepV ((onePt [15, 0, 1, 0]).set 1 13)).2.2 : Int) = 0 := by decide +kernel
theorem sv1_g : (stepV (({ ((onePt [15, 0, 1, 0]).set 1 13 : Pt) with pc := 13 } : Pt))).2.1 = -1 := by decide +kernel
theorem sv2_g : ((stepV (({ ((onePt [15, 0, 1, 0]).set 1 13 : Pt) with pc := 13 } : Pt))).2.2 : Int) = 0 := by decide +kernel
theorem sv1_h : (stepV (({ (({ ((onePt [15, 0, 1, 0]).set 1 13 : Pt) with pc := 13 } : Pt) : Pt) with pc := 4 } : Pt))).2.1 = -1 := by decide +kernel
theorem sv2_h : ((stepV (({ (({ ((onePt [15, 0, 1, 0]).set 1 13 : Pt) with pc := 13 } : Pt) : Pt) with pc := 4 } : Pt))).2.2 : Int) = 0 := by decide +kernel
theorem sv1_i : (stepV ((stepV ({ (({ ((onePt [15, 0, 1, 0]).set 1 13 : Pt) with pc := 13 } : Pt) : Pt) with pc := 4 } : Pt)).1)).2.1 = -1 := by decide +kernel
theorem sv2_i : ((stepV ((stepV ({ (({ ((onePt [15, 0, 1, 0]).set 1 13 : Pt) with pc := 13 } : Pt) : Pt) with pc := 4 } : Pt)).1)).2.2 : Int) = 2 := by decide +kernel
theorem sf_a_g_1 : (stepV (onePt [2, 1, 1, 44])).1.g 1 = 300 := by decide +kernel
theorem sf_a_pc : (stepV (onePt [2, 1, 1, 44])).1.pc = 4 := by decide +kernel
theorem sf_b_g_0 : (stepV (((onePt [4, 0, 1, 2]).set 1 4294967295).set 2 2)).1.g 0 = 1 := by decide +kernel
theorem sf_c_pc : (stepV (onePt [17, 0, 0, 6])).1.pc = 6 := by decide +kernel
theorem sf_d_pc : (stepV (onePt [20, 0, 0, 7])).1.pc = 4 := by decide +kernel
theorem sf_f_st : (stepV ((onePt [15, 0, 1, 0]).set 1 13)).1.st = 3 := by decide +kernel
theorem sf_f_pc : (stepV ((onePt [15, 0, 1, 0]).set 1 13)).1.pc = 0 := by decide +kernel
theorem sf_g_st : (stepV (({ ((onePt [15, 0, 1, 0]).set 1 13 : Pt) with pc := 13 } : Pt))).1.st = 3 := by decide +kernel
theorem sf_h_st : (stepV (({ (({ ((onePt [15, 0, 1, 0]).set 1 13 : Pt) with pc := 13 } : Pt) : Pt) with pc := 4 } : Pt))).1.st = 2 := by decide +kernel
set_option maxRecDepth 100000 in
set_option maxHeartbeats 16000000 in
theorem vawake_ok (w : World) (hE : Env w) : Calls Tryz.prog 14 #[] w fun e w' => e = .returned (.bool true) ∧ Chg Non w w' := by
  have HE := Lib.hid hE
  clear hE
  go_enter Tryz.func14, Tryz.ntmps14
  go_wp2_with fail
  refine (one_ok [115, 101, 116, 32, 49, 32, 51, 48, 48] [2, 1, 1, 44] _ (HE.out.non (Chg.refl Non w)) (by decide) cd_0 rfl).mono ?_
  rintro e w1 ⟨A1, c1, rfl, q1, q2, q3, q4⟩
  have HM1 : Hid (Rd w1 A1 ([2, 1, 1, 44] ++ List.replicate 12 0)) := Lib.hid q3.rd
  have HG := Lib.hid ((Chg.refl Non w).then_non q4)
  clear q1 q2 q3 q4
  go_wp2_with fail
  refine (Step_v (onePt [2, 1, 1, 44]) _ (-1) (0) 16 A1 c1 _ rfl sv1_a sv2_a rfl (onePt_bd _) HM1.out (by omega)).mono ?_
  rintro e w2 ⟨A2, c2, rfl, q3, q4⟩
  have HM2 := Lib.hid q3
  have HG := Lib.hid (HG.out.then_non q4)
  clear q3 q4
  go_wp2_with (first
    | (refine sel none (.store _ (.tmp 1) (.tmp 30)) ?_; refine Vm_stop ?_))
  refine HoleV.mk ?_
  refine wpList_store_rowA rfl 26 (.tmp 1) (.tmp 30) rfl w2.heap.size (partC ((stepV (onePt [2, 1, 1, 44])).1) (.slice A2 16 c2)) rfl rfl 26 zeroPart (heap_alloc_new w2 _) (by rw [partC_size (step_bd (onePt_bd _)).1.r8]; exact info_part) (by rw [partC_size (step_bd (onePt_bd _)).1.r8]; rfl) (partC_one _ _ rfl) ?_
  intro w3 hgW hbW
  have hgn : Chg Non w2 w3 := ((Chg.refl Non w2).alloc (.cells zeroPart 26)).then_new hgW (fun x e => by omega)
  have HP_a : Hid (PartB w3 w2.heap.size ((stepV (onePt [2, 1, 1, 44])).1) (.slice A2 16 c2)) := Lib.hid ⟨hbW, (step_bd (onePt_bd _)).1.r8⟩
  have HGp := HG
  have HG := Lib.hid (HG.out.then_non hgn)
  have hge_a : w.heap.size ≤ w2.heap.size := HGp.out.size
  obtain ⟨b_a, hb_a⟩ : ∃ b, w2.heap.size = b := ⟨_, rfl⟩
  rw [hb_a] at hge_a
  rw [hb_a] at HP_a ⊢
  clear hgW hbW hgn hb_a
  go_wp2_with fail
  refine (one_ok [97, 100, 100, 32, 48, 32, 49, 32, 50] [4, 0, 1, 2] _ (HE.out.non (HG.out)) (by decide) cd_1 rfl).mono ?_
  rintro e w4 ⟨A4, c4, rfl, q1, q2, q3, q4⟩
  have HM4 : Hid (Rd w4 A4 ([4, 0, 1, 2] ++ List.replicate 12 0)) := Lib.hid q3.rd
  have HP_a := Lib.hid (HP_a.out.non q4)
  have HG := Lib.hid ((HG.out).then_non q4)
  clear q1 q2 q3 q4
  go_wp2_with (first
    | (refine sel none (.store _ (.tmp 4) (.tmp 33)) ?_; refine Vm_stop ?_))
  refine HoleV.mk ?_
  refine wpList_store_rowA rfl 26 (.tmp 4) (.tmp 33) rfl w4.heap.size (partC (onePt [4, 0, 1, 2]) (.slice A4 16 c4)) rfl rfl 26 zeroPart (heap_alloc_new w4 _) (by rw [partC_size rfl]; exact info_part) (by rw [partC_size rfl]; rfl) (partC_one _ _ rfl) ?_
  intro w5 hgW hbW
  have hgn : Chg Non w4 w5 := ((Chg.refl Non w4).alloc (.cells zeroPart 26)).then_new hgW (fun x e => by omega)
  have hl_a_p := HP_a.out.lt
  have hA_p := rd_lt HM4.out
  have HP_a := Lib.hid (HP_a.out.non hgn)
  have HR_p := Lib.hid (HM4.out.non hgn)
  have HP_p : Hid (PartB w5 w4.heap.size (onePt [4, 0, 1, 2]) (.slice A4 16 c4)) := Lib.hid ⟨hbW, rfl⟩
  have HGp := HG
  have HG := Lib.hid (HG.out.then_non hgn)
  have hge_p : w.heap.size ≤ w4.heap.size := HGp.out.size
  obtain ⟨b_p, hb_p⟩ : ∃ b, w4.heap.size = b := ⟨_, rfl⟩
  rw [hb_p] at hge_p
  rw [hb_p] at HP_p ⊢
  rw [hb_p] at hl_a_p
  rw [hb_p] at hA_p
  clear hgW hbW hgn hb_p
  have k1 : w5.cell? ⟨b_p, 4, none⟩ = some (.int .u32 0) := HP_p.out.reg 1 (by omega)
  have k2 : w5.cell? ⟨b_p, 5, none⟩ = some (.int .u32 0) := HP_p.out.reg 2 (by omega)
  have kl := HP_p.out.lt
  have kf4 := HP_p.out.frozen 4
  have kf5 := HP_p.out.frozen 5
  go_wp2_with (first
    | (refine sel (some 39) (.load _ (.tmp 4)) ?_; refine Vm_stop ?_))
  refine HoleV.mk ?_
  clear k1 k2 kl kf4 kf5
  have hgs := setAt w5 b_p 4 (.int .u32 4294967295)
  have HP_a := Lib.hid (HP_a.out.keep hgs (by omega))
  have HR_p := Lib.hid (HR_p.out.keep hgs (fun b o e1 e2 => by have := hA_p b o e1 e2; omega))
  have HP_p := Lib.hid (HP_p.out.setReg 1 4294967295 (by omega))
  have HG := Lib.hid (HG.out.then_new hgs (fun x e => by omega))
  clear hgs
  have hgs := setAt (w5.setCell ⟨b_p, 4, none⟩ (.int .u32 4294967295)) b_p 5 (.int .u32 2)
  have HP_a := Lib.hid (HP_a.out.keep hgs (by omega))
  have HR_p := Lib.hid (HR_p.out.keep hgs (fun b o e1 e2 => by have := hA_p b o e1 e2; omega))
  have HP_p := Lib.hid (HP_p.out.setReg 2 2 (by omega))
  have HG := Lib.hid (HG.out.then_new hgs (fun x e => by omega))
  clear hgs
  refine wpList_load_row rfl 26 (.tmp 4) rfl b_p rfl 26 _ (0, 0) _ HP_p.out.out Tryz.underlying26 rfl (by rw [partC_size HP_p.out.len]; exact info_part) ?_
  go_wp2_with fail
  refine (Step_v (((onePt [4, 0, 1, 2]).set 1 4294967295).set 2 2) _ (-1) (0) 16 A4 c4 _ rfl sv1_b sv2_b rfl (((onePt_bd _).set 1 4294967295 (by omega)).set 2 2 (by omega)) HR_p.out (by omega)).mono ?_
  rintro e w6 ⟨A6, c6, rfl, q3, q4⟩
  have HM6 := Lib.hid q3
  have HP_a := Lib.hid (HP_a.out.non q4)
  have HP_p := Lib.hid (HP_p.out.non q4)
  have HR_p := Lib.hid (HR_p.out.non q4)
  have HG := Lib.hid (HG.out.then_non q4)
  clear q3 q4
  go_wp2_with (first
    | (refine sel none (.store _ (.tmp 5) (.tmp 41)) ?_; refine Vm_stop ?_))
  refine HoleV.mk ?_
  refine wpList_store_rowA rfl 26 (.tmp 5) (.tmp 41) rfl w6.heap.size (partC ((stepV (((onePt [4, 0, 1, 2]).set 1 4294967295).set 2 2)).1) (.slice A6 16 c6)) rfl rfl 26 zeroPart (heap_alloc_new w6 _) (by rw [partC_size (step_bd (((onePt_bd _).set 1 4294967295 (by omega)).set 2 2 (by omega))).1.r8]; exact info_part) (by rw [partC_size (step_bd (((onePt_bd _).set 1 4294967295 (by omega)).set 2 2 (by omega))).1.r8]; rfl) (partC_one _ _ rfl) ?_
  intro w7 hgW hbW
  have hgn : Chg Non w6 w7 := ((Chg.refl Non w6).alloc (.cells zeroPart 26)).then_new hgW (fun x e => by omega)
  have hl_a_b := HP_a.out.lt
  have hl_p_b := HP_p.out.lt
  have HP_a := Lib.hid (HP_a.out.non hgn)
  have HP_p := Lib.hid (HP_p.out.non hgn)
  have HR_p := Lib.hid (HR_p.out.non hgn)
  have HP_b : Hid (PartB w7 w6.heap.size ((stepV (((onePt [4, 0, 1, 2]).set 1 4294967295).set 2 2)).1) (.slice A6 16 c6)) := Lib.hid ⟨hbW, (step_bd (((onePt_bd _).set 1 4294967295 (by omega)).set 2 2 (by omega))).1.r8⟩
  have HGp := HG
  have HG := Lib.hid (HG.out.then_non hgn)
  have hge_b : w.heap.size ≤ w6.heap.size := HGp.out.size
  obtain ⟨b_b, hb_b⟩ : ∃ b, w6.heap.size = b := ⟨_, rfl⟩
  rw [hb_b] at hge_b
  rw [hb_b] at HP_b ⊢
  rw [hb_b] at hl_a_b
  rw [hb_b] at hl_p_b
  clear hgW hbW hgn hb_b
  go_wp2_with fail
  refine (one_ok [106, 109, 112, 32, 54] [17, 0, 0, 6] _ (HE.out.non (HG.out)) (by decide) cd_2 rfl).mono ?_
  rintro e w8 ⟨A8, c8, rfl, q1, q2, q3, q4⟩
  have HM8 : Hid (Rd w8 A8 ([17, 0, 0, 6] ++ List.replicate 12 0)) := Lib.hid q3.rd
  have HP_a := Lib.hid (HP_a.out.non q4)
  have HP_p := Lib.hid (HP_p.out.non q4)
  have HR_p := Lib.hid (HR_p.out.non q4)
  have HP_b := Lib.hid (HP_b.out.non q4)
  have HG := Lib.hid ((HG.out).then_non q4)
  clear q1 q2 q3 q4
  go_wp2_with fail
  refine (Step_v (onePt [17, 0, 0, 6]) _ (-1) (0) 16 A8 c8 _ rfl sv1_c sv2_c rfl (onePt_bd _) HM8.out (by omega)).mono ?_
  rintro e w9 ⟨A9, c9, rfl, q3, q4⟩
  have HM9 := Lib.hid q3
  have HP_a := Lib.hid (HP_a.out.non q4)
  have HP_p := Lib.hid (HP_p.out.non q4)
  have HR_p := Lib.hid (HR_p.out.non q4)
  have HP_b := Lib.hid (HP_b.out.non q4)
  have HG := Lib.hid (HG.out.then_non q4)
  clear q3 q4
  go_wp2_with (first
    | (refine sel none (.store _ (.tmp 8) (.tmp 47)) ?_; refine Vm_stop ?_))
  refine HoleV.mk ?_
  refine wpList_store_rowA rfl 26 (.tmp 8) (.tmp 47) rfl w9.heap.size (partC ((stepV (onePt [17, 0, 0, 6])).1) (.slice A9 16 c9)) rfl rfl 26 zeroPart (heap_alloc_new w9 _) (by rw [partC_size (step_bd (onePt_bd _)).1.r8]; exact info_part) (by rw [partC_size (step_bd (onePt_bd _)).1.r8]; rfl) (partC_one _ _ rfl) ?_
  intro w10 hgW hbW
  have hgn : Chg Non w9 w10 := ((Chg.refl Non w9).alloc (.cells zeroPart 26)).then_new hgW (fun x e => by omega)
  have hl_a_c := HP_a.out.lt
  have hl_p_c := HP_p.out.lt
  have hl_b_c := HP_b.out.lt
  have HP_a := Lib.hid (HP_a.out.non hgn)
  have HP_p := Lib.hid (HP_p.out.non hgn)
  have HR_p := Lib.hid (HR_p.out.non hgn)
  have HP_b := Lib.hid (HP_b.out.non hgn)
  have HP_c : Hid (PartB w10 w9.heap.size ((stepV (onePt [17, 0, 0, 6])).1) (.slice A9 16 c9)) := Lib.hid ⟨hbW, (step_bd (onePt_bd _)).1.r8⟩
  have HGp := HG
  have HG := Lib.hid (HG.out.then_non hgn)
  have hge_c : w.heap.size ≤ w9.heap.size := HGp.out.size
  obtain ⟨b_c, hb_c⟩ : ∃ b, w9.heap.size = b := ⟨_, rfl⟩
  rw [hb_c] at hge_c
  rw [hb_c] at HP_c ⊢
  rw [hb_c] at hl_a_c
  rw [hb_c] at hl_p_c
  rw [hb_c] at hl_b_c
  clear hgW hbW hgn hb_c
  go_wp2_with fail
  refine (one_ok [99, 97, 108, 108, 32, 55] [20, 0, 0, 7] _ (HE.out.non (HG.out)) (by decide) cd_3 rfl).mono ?_
  rintro e w11 ⟨A11, c11, rfl, q1, q2, q3, q4⟩
  have HM11 : Hid (Rd w11 A11 ([20, 0, 0, 7] ++ List.replicate 12 0)) := Lib.hid q3.rd
  have HP_a := Lib.hid (HP_a.out.non q4)
  have HP_p := Lib.hid (HP_p.out.non q4)
  have HR_p := Lib.hid (HR_p.out.non q4)
  have HP_b := Lib.hid (HP_b.out.non q4)
  have HP_c := Lib.hid (HP_c.out.non q4)
  have HG := Lib.hid ((HG.out).then_non q4)
  clear q1 q2 q3 q4
  go_wp2_with fail
  refine (Step_v (onePt [20, 0, 0, 7]) _ (7) (0) 16 A11 c11 _ rfl sv1_d sv2_d rfl (onePt_bd _) HM11.out (by omega)).mono ?_
  rintro e w12 ⟨A12, c12, rfl, q3, q4⟩
  have HM12 := Lib.hid q3
  have HP_a := Lib.hid (HP_a.out.non q4)
  have HP_p := Lib.hid (HP_p.out.non q4)
  have HR_p := Lib.hid (HR_p.out.non q4)
  have HP_b := Lib.hid (HP_b.out.non q4)
  have HP_c := Lib.hid (HP_c.out.non q4)
  have HG := Lib.hid (HG.out.then_non q4)
  clear q3 q4
  go_wp2_with (first
    | (refine sel none (.store _ (.tmp 11) (.tmp 53)) ?_; refine Vm_stop ?_))
  refine HoleV.mk ?_
  refine wpList_store_rowA rfl 26 (.tmp 11) (.tmp 53) rfl w12.heap.size (partC ((stepV (onePt [20, 0, 0, 7])).1) (.slice A12 16 c12)) rfl rfl 26 zeroPart (heap_alloc_new w12 _) (by rw [partC_size (step_bd (onePt_bd _)).1.r8]; exact info_part) (by rw [partC_size (step_bd (onePt_bd _)).1.r8]; rfl) (partC_one _ _ rfl) ?_
  intro w13 hgW hbW
  have hgn : Chg Non w12 w13 := ((Chg.refl Non w12).alloc (.cells zeroPart 26)).then_new hgW (fun x e => by omega)
  have hl_a_d := HP_a.out.lt
  have hl_p_d := HP_p.out.lt
  have hl_b_d := HP_b.out.lt
  have hl_c_d := HP_c.out.lt
  have HP_a := Lib.hid (HP_a.out.non hgn)
  have HP_p := Lib.hid (HP_p.out.non hgn)
  have HR_p := Lib.hid (HR_p.out.non hgn)
  have HP_b := Lib.hid (HP_b.out.non hgn)
  have HP_c := Lib.hid (HP_c.out.non hgn)
  have HP_d : Hid (PartB w13 w12.heap.size ((stepV (onePt [20, 0, 0, 7])).1) (.slice A12 16 c12)) := Lib.hid ⟨hbW, (step_bd (onePt_bd _)).1.r8⟩
  have HGp := HG
  have HG := Lib.hid (HG.out.then_non hgn)
  have hge_d : w.heap.size ≤ w12.heap.size := HGp.out.size
  obtain ⟨b_d, hb_d⟩ : ∃ b, w12.heap.size = b := ⟨_, rfl⟩
  rw [hb_d] at hge_d
  rw [hb_d] at HP_d ⊢
  rw [hb_d] at hl_a_d
  rw [hb_d] at hl_p_d
  rw [hb_d] at hl_b_d
  rw [hb_d] at hl_c_d
  clear hgW hbW hgn hb_d
  go_wp2_with fail
  refine (one_ok [108, 119, 32, 48, 32, 49, 32, 48] [15, 0, 1, 0] _ (HE.out.non (HG.out)) (by decide) cd_4 rfl).mono ?_
  rintro e w14 ⟨A14, c14, rfl, q1, q2, q3, q4⟩
  have HM14 : Hid (Rd w14 A14 ([15, 0, 1, 0] ++ List.replicate 12 0)) := Lib.hid q3.rd
  have HP_a := Lib.hid (HP_a.out.non q4)
  have HP_p := Lib.hid (HP_p.out.non q4)
  have HR_p := Lib.hid (HR_p.out.non q4)
  have HP_b := Lib.hid (HP_b.out.non q4)
  have HP_c := Lib.hid (HP_c.out.non q4)
  have HP_d := Lib.hid (HP_d.out.non q4)
  have HG := Lib.hid ((HG.out).then_non q4)
  clear q1 q2 q3 q4
  go_wp2_with (first
    | (refine sel none (.store _ (.tmp 14) (.tmp 56)) ?_; refine Vm_stop ?_))
  refine HoleV.mk ?_
  refine wpList_store_rowA rfl 26 (.tmp 14) (.tmp 56) rfl w14.heap.size (partC (onePt [15, 0, 1, 0]) (.slice A14 16 c14)) rfl rfl 26 zeroPart (heap_alloc_new w14 _) (by rw [partC_size rfl]; exact info_part) (by rw [partC_size rfl]; rfl) (partC_one _ _ rfl) ?_
  intro w15 hgW hbW
  have hgn : Chg Non w14 w15 := ((Chg.refl Non w14).alloc (.cells zeroPart 26)).then_new hgW (fun x e => by omega)
  have hl_a_q := HP_a.out.lt
  have hl_p_q := HP_p.out.lt
  have hl_b_q := HP_b.out.lt
  have hl_c_q := HP_c.out.lt
  have hl_d_q := HP_d.out.lt
  have hA_q := rd_lt HM14.out
  have HP_a := Lib.hid (HP_a.out.non hgn)
  have HP_p := Lib.hid (HP_p.out.non hgn)
  have HR_p := Lib.hid (HR_p.out.non hgn)
  have HP_b := Lib.hid (HP_b.out.non hgn)
  have HP_c := Lib.hid (HP_c.out.non hgn)
  have HP_d := Lib.hid (HP_d.out.non hgn)
  have HR_q := Lib.hid (HM14.out.non hgn)
  have HP_q : Hid (PartB w15 w14.heap.size (onePt [15, 0, 1, 0]) (.slice A14 16 c14)) := Lib.hid ⟨hbW, rfl⟩
  have HGp := HG
  have HG := Lib.hid (HG.out.then_non hgn)
  have hge_q : w.heap.size ≤ w14.heap.size := HGp.out.size
  obtain ⟨b_q, hb_q⟩ : ∃ b, w14.heap.size = b := ⟨_, rfl⟩
  rw [hb_q] at hge_q
  rw [hb_q] at HP_q ⊢
  rw [hb_q] at hl_a_q
  rw [hb_q] at hl_p_q
  rw [hb_q] at hl_b_q
  rw [hb_q] at hl_c_q
  rw [hb_q] at hl_d_q
  rw [hb_q] at hA_q
  clear hgW hbW hgn hb_q
  have k1 : w15.cell? ⟨b_q, 4, none⟩ = some (.int .u32 0) := HP_q.out.reg 1 (by omega)
  have kl := HP_q.out.lt
  have kf := HP_q.out.frozen 4
  go_wp2_with (first
    | (refine sel (some 60) (.load _ (.tmp 14)) ?_; refine Vm_stop ?_))
  refine HoleV.mk ?_
  clear k1 kl kf
  have hgs := setAt w15 b_q 4 (.int .u32 13)
  have HP_a := Lib.hid (HP_a.out.keep hgs (by omega))
  have HP_p := Lib.hid (HP_p.out.keep hgs (by omega))
  have HR_p := Lib.hid (HR_p.out.keep hgs (fun b o e1 e2 => by have := hA_p b o e1 e2; omega))
  have HP_b := Lib.hid (HP_b.out.keep hgs (by omega))
  have HP_c := Lib.hid (HP_c.out.keep hgs (by omega))
  have HP_d := Lib.hid (HP_d.out.keep hgs (by omega))
  have HR_q := Lib.hid (HR_q.out.keep hgs (fun b o e1 e2 => by have := hA_q b o e1 e2; omega))
  have HP_q := Lib.hid (HP_q.out.setReg 1 13 (by omega))
  have HG := Lib.hid (HG.out.then_new hgs (fun x e => by omega))
  clear hgs
  refine wpList_load_row rfl 26 (.tmp 14) rfl b_q rfl 26 _ (0, 0) _ HP_q.out.out Tryz.underlying26 rfl (by rw [partC_size HP_q.out.len]; exact info_part) ?_
  go_wp2_with fail
  refine (Step_v ((onePt [15, 0, 1, 0]).set 1 13) _ (-1) (0) 16 A14 c14 _ rfl sv1_f sv2_f rfl ((onePt_bd _).set 1 13 (by omega)) HR_q.out (by omega)).mono ?_
  rintro e w16 ⟨A16, c16, rfl, q3, q4⟩
  have HM16 := Lib.hid q3
  have HP_a := Lib.hid (HP_a.out.non q4)
  have HP_p := Lib.hid (HP_p.out.non q4)
  have HR_p := Lib.hid (HR_p.out.non q4)
  have HP_b := Lib.hid (HP_b.out.non q4)
  have HP_c := Lib.hid (HP_c.out.non q4)
  have HP_d := Lib.hid (HP_d.out.non q4)
  have HP_q := Lib.hid (HP_q.out.non q4)
  have HR_q := Lib.hid (HR_q.out.non q4)
  have HG := Lib.hid (HG.out.then_non q4)
  clear q3 q4
  go_wp2_with (first
    | (refine sel none (.store _ (.tmp 15) (.tmp 62)) ?_; refine Vm_stop ?_))
  refine HoleV.mk ?_
  refine wpList_store_rowA rfl 26 (.tmp 15) (.tmp 62) rfl w16.heap.size (partC ((stepV ((onePt [15, 0, 1, 0]).set 1 13)).1) (.slice A16 16 c16)) rfl rfl 26 zeroPart (heap_alloc_new w16 _) (by rw [partC_size (step_bd ((onePt_bd _).set 1 13 (by omega))).1.r8]; exact info_part) (by rw [partC_size (step_bd ((onePt_bd _).set 1 13 (by omega))).1.r8]; rfl) (partC_one _ _ rfl) ?_
  intro w17 hgW hbW
  have hgn : Chg Non w16 w17 := ((Chg.refl Non w16).alloc (.cells zeroPart 26)).then_new hgW (fun x e => by omega)
  have hl_a_f := HP_a.out.lt
  have hl_p_f := HP_p.out.lt
  have hl_b_f := HP_b.out.lt
  have hl_c_f := HP_c.out.lt
  have hl_d_f := HP_d.out.lt
  have hl_q_f := HP_q.out.lt
  have HP_a := Lib.hid (HP_a.out.non hgn)
  have HP_p := Lib.hid (HP_p.out.non hgn)
  have HR_p := Lib.hid (HR_p.out.non hgn)
  have HP_b := Lib.hid (HP_b.out.non hgn)
  have HP_c := Lib.hid (HP_c.out.non hgn)
  have HP_d := Lib.hid (HP_d.out.non hgn)
  have HP_q := Lib.hid (HP_q.out.non hgn)
  have HR_q := Lib.hid (HR_q.out.non hgn)
  have HP_f : Hid (PartB w17 w16.heap.size ((stepV ((onePt [15, 0, 1, 0]).set 1 13)).1) (.slice A16 16 c16)) := Lib.hid ⟨hbW, (step_bd ((onePt_bd _).set 1 13 (by omega))).1.r8⟩
  have HGp := HG
  have HG := Lib.hid (HG.out.then_non hgn)
  have hge_f : w.heap.size ≤ w16.heap.size := HGp.out.size
  obtain ⟨b_f, hb_f⟩ : ∃ b, w16.heap.size = b := ⟨_, rfl⟩
  rw [hb_f] at hge_f
  rw [hb_f] at HP_f ⊢
  rw [hb_f] at hl_a_f
  rw [hb_f] at hl_p_f
  rw [hb_f] at hl_b_f
  rw [hb_f] at hl_c_f
  rw [hb_f] at hl_d_f
  rw [hb_f] at hl_q_f
  clear hgW hbW hgn hb_f
  have k1 : w17.cell? ⟨b_q, 11, none⟩ = some (.int .u32 0) := HP_q.out.cells.2.2.2.1
  have kl := HP_q.out.lt
  have kf := HP_q.out.frozen 11
  go_wp2_with (first
    | (refine sel (some 67) (.load _ (.tmp 14)) ?_; refine Vm_stop ?_))
  refine HoleV.mk ?_
  clear k1 kl kf
  have hgs := setAt w17 b_q 11 (.int .u32 13)
  have HP_a := Lib.hid (HP_a.out.keep hgs (by omega))
  have HP_p := Lib.hid (HP_p.out.keep hgs (by omega))
  have HR_p := Lib.hid (HR_p.out.keep hgs (fun b o e1 e2 => by have := hA_p b o e1 e2; omega))
  have HP_b := Lib.hid (HP_b.out.keep hgs (by omega))
  have HP_c := Lib.hid (HP_c.out.keep hgs (by omega))
  have HP_d := Lib.hid (HP_d.out.keep hgs (by omega))
  have HP_f := Lib.hid (HP_f.out.keep hgs (by omega))
  have HR_q := Lib.hid (HR_q.out.keep hgs (fun b o e1 e2 => by have := hA_q b o e1 e2; omega))
  have HP_q := Lib.hid (HP_q.out.setPc 13)
  have HG := Lib.hid (HG.out.then_new hgs (fun x e => by omega))
  clear hgs
  refine wpList_load_row rfl 26 (.tmp 14) rfl b_q rfl 26 _ (0, 0) _ HP_q.out.out Tryz.underlying26 rfl (by rw [partC_size HP_q.out.len]; exact info_part) ?_
  go_wp2_with fail
  refine (Step_v (({ ((onePt [15, 0, 1, 0]).set 1 13 : Pt) with pc := 13 } : Pt)) _ (-1) (0) 16 A14 c14 _ rfl sv1_g sv2_g rfl (((onePt_bd _).set 1 13 (by omega)).pc 13 (by omega)) HR_q.out (by omega)).mono ?_
  rintro e w18 ⟨A18, c18, rfl, q3, q4⟩
  have HM18 := Lib.hid q3
  have HP_a := Lib.hid (HP_a.out.non q4)
  have HP_p := Lib.hid (HP_p.out.non q4)
  have HR_p := Lib.hid (HR_p.out.non q4)
  have HP_b := Lib.hid (HP_b.out.non q4)
  have HP_c := Lib.hid (HP_c.out.non q4)
  have HP_d := Lib.hid (HP_d.out.non q4)
  have HP_q := Lib.hid (HP_q.out.non q4)
  have HR_q := Lib.hid (HR_q.out.non q4)
  have HP_f := Lib.hid (HP_f.out.non q4)
  have HG := Lib.hid (HG.out.then_non q4)
  clear q3 q4
  go_wp2_with (first
    | (refine sel none (.store _ (.tmp 18) (.tmp 69)) ?_; refine Vm_stop ?_))
  refine HoleV.mk ?_
  refine wpList_store_rowA rfl 26 (.tmp 18) (.tmp 69) rfl w18.heap.size (partC ((stepV (({ ((onePt [15, 0, 1, 0]).set 1 13 : Pt) with pc := 13 } : Pt))).1) (.slice A18 16 c18)) rfl rfl 26 zeroPart (heap_alloc_new w18 _) (by rw [partC_size (step_bd (((onePt_bd _).set 1 13 (by omega)).pc 13 (by omega))).1.r8]; exact info_part) (by rw [partC_size (step_bd (((onePt_bd _).set 1 13 (by omega)).pc 13 (by omega))).1.r8]; rfl) (partC_one _ _ rfl) ?_
  intro w19 hgW hbW
  have hgn : Chg Non w18 w19 := ((Chg.refl Non w18).alloc (.cells zeroPart 26)).then_new hgW (fun x e => by omega)
  have hl_a_g := HP_a.out.lt
  have hl_p_g := HP_p.out.lt
  have hl_b_g := HP_b.out.lt
  have hl_c_g := HP_c.out.lt
  have hl_d_g := HP_d.out.lt
  have hl_q_g := HP_q.out.lt
  have hl_f_g := HP_f.out.lt
  have HP_a := Lib.hid (HP_a.out.non hgn)
  have HP_p := Lib.hid (HP_p.out.non hgn)
  have HR_p := Lib.hid (HR_p.out.non hgn)
  have HP_b := Lib.hid (HP_b.out.non hgn)
  have HP_c := Lib.hid (HP_c.out.non hgn)
  have HP_d := Lib.hid (HP_d.out.non hgn)
  have HP_q := Lib.hid (HP_q.out.non hgn)
  have HR_q := Lib.hid (HR_q.out.non hgn)
  have HP_f := Lib.hid (HP_f.out.non hgn)
  have HP_g : Hid (PartB w19 w18.heap.size ((stepV (({ ((onePt [15, 0, 1, 0]).set 1 13 : Pt) with pc := 13 } : Pt))).1) (.slice A18 16 c18)) := Lib.hid ⟨hbW, (step_bd (((onePt_bd _).set 1 13 (by omega)).pc 13 (by omega))).1.r8⟩
  have HGp := HG
  have HG := Lib.hid (HG.out.then_non hgn)
  have hge_g : w.heap.size ≤ w18.heap.size := HGp.out.size
  obtain ⟨b_g, hb_g⟩ : ∃ b, w18.heap.size = b := ⟨_, rfl⟩
  rw [hb_g] at hge_g
  rw [hb_g] at HP_g ⊢
  rw [hb_g] at hl_a_g
  rw [hb_g] at hl_p_g
  rw [hb_g] at hl_b_g
  rw [hb_g] at hl_c_g
  rw [hb_g] at hl_d_g
  rw [hb_g] at hl_q_g
  rw [hb_g] at hl_f_g
  clear hgW hbW hgn hb_g
  have k1 : w19.cell? ⟨b_q, 11, none⟩ = some (.int .u32 13) := HP_q.out.cells.2.2.2.1
  have kl := HP_q.out.lt
  have kf := HP_q.out.frozen 11
  go_wp2_with (first
    | (refine sel (some 74) (.load _ (.tmp 14)) ?_; refine Vm_stop ?_))
  refine HoleV.mk ?_
  clear k1 kl kf
  have hgs := setAt w19 b_q 11 (.int .u32 4)
  have HP_a := Lib.hid (HP_a.out.keep hgs (by omega))
  have HP_p := Lib.hid (HP_p.out.keep hgs (by omega))
  have HR_p := Lib.hid (HR_p.out.keep hgs (fun b o e1 e2 => by have := hA_p b o e1 e2; omega))
  have HP_b := Lib.hid (HP_b.out.keep hgs (by omega))
  have HP_c := Lib.hid (HP_c.out.keep hgs (by omega))
  have HP_d := Lib.hid (HP_d.out.keep hgs (by omega))
  have HP_f := Lib.hid (HP_f.out.keep hgs (by omega))
  have HP_g := Lib.hid (HP_g.out.keep hgs (by omega))
  have HR_q := Lib.hid (HR_q.out.keep hgs (fun b o e1 e2 => by have := hA_q b o e1 e2; omega))
  have HP_q := Lib.hid (HP_q.out.setPc 4)
  have HG := Lib.hid (HG.out.then_new hgs (fun x e => by omega))
  clear hgs
  refine wpList_load_row rfl 26 (.tmp 14) rfl b_q rfl 26 _ (0, 0) _ HP_q.out.out Tryz.underlying26 rfl (by rw [partC_size HP_q.out.len]; exact info_part) ?_
  go_wp2_with fail
  refine (Step_v (({ (({ ((onePt [15, 0, 1, 0]).set 1 13 : Pt) with pc := 13 } : Pt) : Pt) with pc := 4 } : Pt)) _ (-1) (0) 16 A14 c14 _ rfl sv1_h sv2_h rfl ((((onePt_bd _).set 1 13 (by omega)).pc 13 (by omega)).pc 4 (by omega)) HR_q.out (by omega)).mono ?_
  rintro e w20 ⟨A20, c20, rfl, q3, q4⟩
  have HM20 := Lib.hid q3
  have HP_a := Lib.hid (HP_a.out.non q4)
  have HP_p := Lib.hid (HP_p.out.non q4)
  have HR_p := Lib.hid (HR_p.out.non q4)
  have HP_b := Lib.hid (HP_b.out.non q4)
  have HP_c := Lib.hid (HP_c.out.non q4)
  have HP_d := Lib.hid (HP_d.out.non q4)
  have HP_q := Lib.hid (HP_q.out.non q4)
  have HR_q := Lib.hid (HR_q.out.non q4)
  have HP_f := Lib.hid (HP_f.out.non q4)
  have HP_g := Lib.hid (HP_g.out.non q4)
  have HG := Lib.hid (HG.out.then_non q4)
  clear q3 q4
  go_wp2_with (first
    | (refine sel none (.store _ (.tmp 21) (.tmp 76)) ?_; refine Vm_stop ?_))
  refine HoleV.mk ?_
  refine wpList_store_rowA rfl 26 (.tmp 21) (.tmp 76) rfl w20.heap.size (partC ((stepV (({ (({ ((onePt [15, 0, 1, 0]).set 1 13 : Pt) with pc := 13 } : Pt) : Pt) with pc := 4 } : Pt))).1) (.slice A20 16 c20)) rfl rfl 26 zeroPart (heap_alloc_new w20 _) (by rw [partC_size (step_bd ((((onePt_bd _).set 1 13 (by omega)).pc 13 (by omega)).pc 4 (by omega))).1.r8]; exact info_part) (by rw [partC_size (step_bd ((((onePt_bd _).set 1 13 (by omega)).pc 13 (by omega)).pc 4 (by omega))).1.r8]; rfl) (partC_one _ _ rfl) ?_
  intro w21 hgW hbW
  have hgn : Chg Non w20 w21 := ((Chg.refl Non w20).alloc (.cells zeroPart 26)).then_new hgW (fun x e => by omega)
  have hl_a_h := HP_a.out.lt
  have hl_p_h := HP_p.out.lt
  have hl_b_h := HP_b.out.lt
  have hl_c_h := HP_c.out.lt
  have hl_d_h := HP_d.out.lt
  have hl_q_h := HP_q.out.lt
  have hl_f_h := HP_f.out.lt
  have hl_g_h := HP_g.out.lt
  have hA_h := rd_lt HM20.out
  have HP_a := Lib.hid (HP_a.out.non hgn)
  have HP_p := Lib.hid (HP_p.out.non hgn)
  have HR_p := Lib.hid (HR_p.out.non hgn)
  have HP_b := Lib.hid (HP_b.out.non hgn)
  have HP_c := Lib.hid (HP_c.out.non hgn)
  have HP_d := Lib.hid (HP_d.out.non hgn)
  have HP_q := Lib.hid (HP_q.out.non hgn)
  have HR_q := Lib.hid (HR_q.out.non hgn)
  have HP_f := Lib.hid (HP_f.out.non hgn)
  have HP_g := Lib.hid (HP_g.out.non hgn)
  have HR_h := Lib.hid (HM20.out.non hgn)
  have HP_h : Hid (PartB w21 w20.heap.size ((stepV (({ (({ ((onePt [15, 0, 1, 0]).set 1 13 : Pt) with pc := 13 } : Pt) : Pt) with pc := 4 } : Pt))).1) (.slice A20 16 c20)) := Lib.hid ⟨hbW, (step_bd ((((onePt_bd _).set 1 13 (by omega)).pc 13 (by omega)).pc 4 (by omega))).1.r8⟩
  have HGp := HG
  have HG := Lib.hid (HG.out.then_non hgn)
  have hge_h : w.heap.size ≤ w20.heap.size := HGp.out.size
  obtain ⟨b_h, hb_h⟩ : ∃ b, w20.heap.size = b := ⟨_, rfl⟩
  rw [hb_h] at hge_h
  rw [hb_h] at HP_h ⊢
  rw [hb_h] at hl_a_h
  rw [hb_h] at hl_p_h
  rw [hb_h] at hl_b_h
  rw [hb_h] at hl_c_h
  rw [hb_h] at hl_d_h
  rw [hb_h] at hl_q_h
  rw [hb_h] at hl_f_h
  rw [hb_h] at hl_g_h
  rw [hb_h] at hA_h
  clear hgW hbW hgn hb_h
  go_wp2_with (first
    | (refine sel (some 80) (.load _ (.tmp 21)) ?_; refine Vm_stop ?_))
  refine HoleV.mk ?_
  refine wpList_load_row rfl 26 (.tmp 21) rfl b_h rfl 26 _ (0, 0) _ HP_h.out.out Tryz.underlying26 rfl (by rw [partC_size HP_h.out.len]; exact info_part) ?_
  go_wp2_with fail
  refine (Step_v ((stepV ({ (({ ((onePt [15, 0, 1, 0]).set 1 13 : Pt) with pc := 13 } : Pt) : Pt) with pc := 4 } : Pt)).1) _ (-1) (2) 16 A20 c20 _ rfl sv1_i sv2_i (by rw [step_mem]; rfl) (step_bd ((((onePt_bd _).set 1 13 (by omega)).pc 13 (by omega)).pc 4 (by omega))).1 HR_h.out (by omega)).mono ?_
  rintro e w22 ⟨A22, c22, rfl, q3, q4⟩
  have HM22 := Lib.hid q3
  have HP_a := Lib.hid (HP_a.out.non q4)
  have HP_p := Lib.hid (HP_p.out.non q4)
  have HR_p := Lib.hid (HR_p.out.non q4)
  have HP_b := Lib.hid (HP_b.out.non q4)
  have HP_c := Lib.hid (HP_c.out.non q4)
  have HP_d := Lib.hid (HP_d.out.non q4)
  have HP_q := Lib.hid (HP_q.out.non q4)
  have HR_q := Lib.hid (HR_q.out.non q4)
  have HP_f := Lib.hid (HP_f.out.non q4)
  have HP_g := Lib.hid (HP_g.out.non q4)
  have HP_h := Lib.hid (HP_h.out.non q4)
  have HR_h := Lib.hid (HR_h.out.non q4)
  have HG := Lib.hid (HG.out.then_non q4)
  clear q3 q4
  go_wp2_with (first
    | (refine sel none (.store _ (.tmp 24) (.tmp 82)) ?_; refine Vm_stop ?_))
  refine HoleV.mk ?_
  refine wpList_store_rowA rfl 26 (.tmp 24) (.tmp 82) rfl w22.heap.size (partC ((stepV ((stepV ({ (({ ((onePt [15, 0, 1, 0]).set 1 13 : Pt) with pc := 13 } : Pt) : Pt) with pc := 4 } : Pt)).1)).1) (.slice A22 16 c22)) rfl rfl 26 zeroPart (heap_alloc_new w22 _) (by rw [partC_size (step_bd (step_bd ((((onePt_bd _).set 1 13 (by omega)).pc 13 (by omega)).pc 4 (by omega))).1).1.r8]; exact info_part) (by rw [partC_size (step_bd (step_bd ((((onePt_bd _).set 1 13 (by omega)).pc 13 (by omega)).pc 4 (by omega))).1).1.r8]; rfl) (partC_one _ _ rfl) ?_
  intro w23 hgW hbW
  have hgn : Chg Non w22 w23 := ((Chg.refl Non w22).alloc (.cells zeroPart 26)).then_new hgW (fun x e => by omega)
  have hl_a_i := HP_a.out.lt
  have hl_p_i := HP_p.out.lt
  have hl_b_i := HP_b.out.lt
  have hl_c_i := HP_c.out.lt
  have hl_d_i := HP_d.out.lt
  have hl_q_i := HP_q.out.lt
  have hl_f_i := HP_f.out.lt
  have hl_g_i := HP_g.out.lt
  have hl_h_i := HP_h.out.lt
  have HP_a := Lib.hid (HP_a.out.non hgn)
  have HP_p := Lib.hid (HP_p.out.non hgn)
  have HR_p := Lib.hid (HR_p.out.non hgn)
  have HP_b := Lib.hid (HP_b.out.non hgn)
  have HP_c := Lib.hid (HP_c.out.non hgn)
  have HP_d := Lib.hid (HP_d.out.non hgn)
  have HP_q := Lib.hid (HP_q.out.non hgn)
  have HR_q := Lib.hid (HR_q.out.non hgn)
  have HP_f := Lib.hid (HP_f.out.non hgn)
  have HP_g := Lib.hid (HP_g.out.non hgn)
  have HP_h := Lib.hid (HP_h.out.non hgn)
  have HR_h := Lib.hid (HR_h.out.non hgn)
  have HP_i : Hid (PartB w23 w22.heap.size ((stepV ((stepV ({ (({ ((onePt [15, 0, 1, 0]).set 1 13 : Pt) with pc := 13 } : Pt) : Pt) with pc := 4 } : Pt)).1)).1) (.slice A22 16 c22)) := Lib.hid ⟨hbW, (step_bd (step_bd ((((onePt_bd _).set 1 13 (by omega)).pc 13 (by omega)).pc 4 (by omega))).1).1.r8⟩
  have HGp := HG
  have HG := Lib.hid (HG.out.then_non hgn)
  have hge_i : w.heap.size ≤ w22.heap.size := HGp.out.size
  obtain ⟨b_i, hb_i⟩ : ∃ b, w22.heap.size = b := ⟨_, rfl⟩
  rw [hb_i] at hge_i
  rw [hb_i] at HP_i ⊢
  rw [hb_i] at hl_a_i
  rw [hb_i] at hl_p_i
  rw [hb_i] at hl_b_i
  rw [hb_i] at hl_c_i
  rw [hb_i] at hl_d_i
  rw [hb_i] at hl_q_i
  rw [hb_i] at hl_f_i
  rw [hb_i] at hl_g_i
  rw [hb_i] at hl_h_i
  clear hgW hbW hgn hb_i
  have y0 : w23.cell? ⟨b_a, 4, none⟩ = some (.int .u32 300) := by have h := HP_a.out.reg 1 (by omega); rw [sf_a_g_1] at h; exact h
  have y1 : w23.cell? ⟨b_a, 11, none⟩ = some (.int .u32 4) := by have h := HP_a.out.cells.2.2.2.1; rw [sf_a_pc] at h; exact h
  have y2 : w23.cell? ⟨b_b, 3, none⟩ = some (.int .u32 1) := by have h := HP_b.out.reg 0 (by omega); rw [sf_b_g_0] at h; exact h
  have y3 : w23.cell? ⟨b_c, 11, none⟩ = some (.int .u32 6) := by have h := HP_c.out.cells.2.2.2.1; rw [sf_c_pc] at h; exact h
  have y4 : w23.cell? ⟨b_d, 11, none⟩ = some (.int .u32 4) := by have h := HP_d.out.cells.2.2.2.1; rw [sf_d_pc] at h; exact h
  have y5 : w23.cell? ⟨b_f, 12, none⟩ = some (.int .u8 3) := by have h := HP_f.out.cells.2.2.2.2.1; rw [sf_f_st] at h; exact h
  have y6 : w23.cell? ⟨b_f, 11, none⟩ = some (.int .u32 0) := by have h := HP_f.out.cells.2.2.2.1; rw [sf_f_pc] at h; exact h
  have y7 : w23.cell? ⟨b_g, 12, none⟩ = some (.int .u8 3) := by have h := HP_g.out.cells.2.2.2.2.1; rw [sf_g_st] at h; exact h
  have y8 : w23.cell? ⟨b_h, 12, none⟩ = some (.int .u8 2) := by have h := HP_h.out.cells.2.2.2.2.1; rw [sf_h_st] at h; exact h
  go_wp2_with fail
  go_ret
  exact ⟨rfl, HG.out⟩

theorem keyLits_u32n {P : Program} {e : TypeId} {D : Nat} (he : P.underlying e = some (.int .u32)) (b : Nat) (h : b < 4294967296) : P.keyLits (D + 1) e [.int .u32 b] = some [.int .u32 (b : Int)] := by
  unfold Program.keyLits
  rw [he]
  have hw : (Lit.int .u32 (b : Int)).wf = true := WalkArith.wf_u32 (by omega)
  simp only [true_and, hw, if_true]
def regC (p : Pt) : Array Value := #[.int .u32 (p.g 0 : Nat), .int .u32 (p.g 1 : Nat), .int .u32 (p.g 2 : Nat), .int .u32 (p.g 3 : Nat), .int .u32 (p.g 4 : Nat), .int .u32 (p.g 5 : Nat), .int .u32 (p.g 6 : Nat), .int .u32 (p.g 7 : Nat)]
def regLits (p : Pt) : List Lit := [.int .u32 (p.g 0 : Nat), .int .u32 (p.g 1 : Nat), .int .u32 (p.g 2 : Nat), .int .u32 (p.g 3 : Nat), .int .u32 (p.g 4 : Nat), .int .u32 (p.g 5 : Nat), .int .u32 (p.g 6 : Nat), .int .u32 (p.g 7 : Nat)]
set_option maxRecDepth 100000 in
theorem keyLits_reg (p : Pt) (h : p.Bd) : Tryz.prog.keyLits 3 23 (regC p).toList = some (regLits p) := by
  unfold Program.keyLits
  rw [Tryz.underlying23]
  have c8 : Tryz.prog.cellsOf 23 = 8 := by kernel_rfl
  have c1 : Tryz.prog.cellsOf 22 = 1 := by kernel_rfl
  have k : ∀ i, Tryz.prog.keyLits 2 22 [.int .u32 (p.g i : Nat)] = some [.int .u32 ((p.g i : Nat) : Int)] := fun i => keyLits_u32n (D := 1) Tryz.underlying22 _ (h.rb i)
  simp [regC, c1, c8, k, regLits, List.range, List.range.loop]
theorem reg_formed (p : Pt) : (Value.agg (regC p)).formed Tryz.prog 23 = true := by
  have c8 : Tryz.prog.cellsOf 23 = 8 := by kernel_rfl
  unfold Value.formed
  rw [Tryz.underlying23]
  simp [c8, regC]
theorem eq_reg (p : Pt) (h : p.Bd) (w : World) : (binOp .eql 23 (.agg (regC p)) (.agg (regC p))).run Tryz.prog w = .ok (.bool true) w := by
  have := (eq_agg (P := Tryz.prog) (t := 23) (p := True) (by simp) 3 (by omega) (by kernel_rfl) (reg_formed p) (reg_formed p) (keyLits_reg p h) (keyLits_reg p h) w).1
  simpa using this
theorem PartB.regs {W : World} {b : Nat} {p : Pt} {m : Value} (h : PartB W b p m) : W.rangeAt b 3 (regC p).toList := by
  intro j v hv
  have hj : j < 8 := by have := (List.getElem?_eq_some_iff.1 hv).1; simpa [regC] using this
  have hr := h.reg j hj
  rw [hr]
  have h' : j = 0 ∨ j = 1 ∨ j = 2 ∨ j = 3 ∨ j = 4 ∨ j = 5 ∨ j = 6 ∨ j = 7 := by omega
  rcases h' with rfl | rfl | rfl | rfl | rfl | rfl | rfl | rfl <;> simpa [regC] using hv
theorem info_reg : (Tryz.prog.info? 23).map (·.size) = some 8 := by kernel_rfl
set_option maxRecDepth 100000 in
set_option maxHeartbeats 4000000 in
theorem Same_eq (p : Pt) (A1 A2 : Option Addr) (l : List UInt8) (c1 c2 : Nat) (w : World) (hb : p.Bd) (h1 : Rd w A1 l) (h2 : Rd w A2 l) :
    Calls Tryz.prog 15 #[.agg (partC p (.slice A1 l.length c1)), .agg (partC p (.slice A2 l.length c2))] w fun e w' => e = .returned (.bool true) ∧ Chg Non w w' := by
  have h8 := hb.r8
  have hg0 : Chg Non w ((w.alloc (.cells (partC p (.slice A1 l.length c1)) 26)).alloc (.cells (partC p (.slice A2 l.length c2)) 26)) := ((Chg.refl Non w).alloc _).alloc _
  have hp1 : PartB ((w.alloc (.cells (partC p (.slice A1 l.length c1)) 26)).alloc (.cells (partC p (.slice A2 l.length c2)) 26)) w.heap.size p (.slice A1 l.length c1) := ⟨al_2_0 _ _ _, h8⟩
  have hp2 : PartB ((w.alloc (.cells (partC p (.slice A1 l.length c1)) 26)).alloc (.cells (partC p (.slice A2 l.length c2)) 26)) (w.heap.size + 1) p (.slice A2 l.length c2) := ⟨al_2_1 _ _ _, h8⟩
  have hs1 := str_of A1 l c1 _ (h1.non hg0)
  have hs2 := str_of A2 l c2 _ (h2.non hg0)
  obtain ⟨C1, hC1⟩ : ∃ C, partC p (.slice A1 l.length c1) = C := ⟨_, rfl⟩
  obtain ⟨C2, hC2⟩ : ∃ C, partC p (.slice A2 l.length c2) = C := ⟨_, rfl⟩
  have z1 : C1.size = 14 := by rw [← hC1]; exact partC_size h8 _
  have z2 : C2.size = 14 := by rw [← hC2]; exact partC_size h8 _
  rw [hC1, hC2] at hp1 hp2 hg0 hs1 hs2 ⊢
  clear hC1 hC2
  obtain ⟨W, hW⟩ : ∃ W, (w.alloc (.cells C1 26)).alloc (.cells C2 26) = W := ⟨_, rfl⟩
  have HP1 := Lib.hid hp1
  have HP2 := Lib.hid hp2
  have HG0 := Lib.hid hg0
  have HEq := Lib.hid (Tryz.bytes_Equal_strs _ _ _ _ _ hs1 hs2)
  have he8 := eq_reg p hb
  obtain ⟨a0, a1, a2, a3, a4, a5⟩ := hp1.cells
  obtain ⟨d0, d1, d2, d3, d4, d5⟩ := hp2.cells
  clear hp1 hp2 hg0 hs1 hs2 h1 h2 hW W
  go_enter Tryz.func15, Tryz.ntmps15
  go_wp2_with (first
    | (refine sel (some 26) (.load _ (.tmp 25)) ?_; refine Vm_stop ?_))
  refine HoleV.mk ?_
  refine wpList_loadW (some 26) 23 (.tmp 25) w.heap.size 3 (regC p) _ rfl rfl (by kernel_rfl) rfl HP1.out.regs Tryz.underlying23 rfl info_reg ?_
  go_wp2_with (first
    | (refine sel (some 28) (.load _ (.tmp 27)) ?_; refine Vm_stop ?_))
  refine HoleV.mk ?_
  refine wpList_loadW (some 28) 23 (.tmp 27) (w.heap.size + 1) 3 (regC p) _ rfl rfl (by kernel_rfl) rfl HP2.out.regs Tryz.underlying23 rfl info_reg ?_
  go_wp2_with fail
  refine HEq.out.mono ?_
  rintro e w' ⟨rfl, rfl⟩
  go_wp2_with fail
  go_ret
  exact ⟨by simp, HG0.out⟩
end Go.Proofs.YtpcmnphohneddaaGreatDoor
