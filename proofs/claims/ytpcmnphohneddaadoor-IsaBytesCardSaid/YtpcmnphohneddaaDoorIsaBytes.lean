/- Walk of citadellaw19.IsaBytes. (Written by wip/gen_isabytes.py.) -/
import Derived.Test.YtpcmnphohneddaaDoorRiB
import Derived.Deep.RegionHeld3
namespace Go.Proofs.YtpcmnphohneddaaDoor
open Go.RowKit
set_option linter.unusedVariables false

set_option maxRecDepth 100000 in
set_option maxHeartbeats 4000000 in
theorem bytes_11 (op a b c : Nat) (n : Int) (p q r s : Nat) (w : World) (hE : Env w) (hx : Ins.Bd ⟨op, a, b, c, n⟩) (hf : Four (p, q, r, s)) (hm : mayB ⟨op, a, b, c, n⟩ = true) (hd : mayB (decI p q r s) = true) :
    Calls Tryd.prog 3 #[.agg #[.int .u8 op, .int .u8 a, .int .u8 b, .int .u8 c, .int .i64 n], .agg #[.int .u8 p, .int .u8 q, .int .u8 r, .int .u8 s]] w fun e w' => e = .returned (.bool true) ∧ Chg Non w w' := by
  have HE := Lib.hid hE
  have HX := Lib.hid hx
  have HF := Lib.hid hf
  have HM := Lib.hid hm
  have HD := Lib.hid hd
  have HRM : Hid (∀ w, Calls Tryd.prog 9 #[.agg #[.int .u8 op, .int .u8 a, .int .u8 b, .int .u8 c, .int .i64 n]] w fun e w' => e = .returned (.bool true) ∧ Chg Non w w') := Lib.hid (fun w => by have h := rMay_ok op a b c n w hx; rw [hm] at h; exact h)
  clear hE hx hf hm hd
  obtain ⟨⟨e1, e2, e3, e4⟩, he⟩ : ∃ f, encI ⟨op, a, b, c, n⟩ = f := ⟨_, rfl⟩
  have HEn := Lib.hid he
  have HFo := Lib.hid (enc_four HM.out he)
  clear he
  have k4 := four_eq e1 e2 e3 e4 HFo.out.1
  obtain ⟨⟨op2, a2, b2, c2, n2⟩, hd2⟩ : ∃ y, decI p q r s = y := ⟨_, rfl⟩
  rw [hd2] at HD
  have HD2 := Lib.hid hd2
  clear hd2
  go_enter Tryd.func3, Tryd.ntmps3
  go_wp2_with fail
  refine (HRM.out _).mono ?_
  rintro e w1 ⟨rfl, hg⟩
  have HB_R := Lib.hid (blockN hg (al_3_0 _ _ _ _))
  have HB_F := Lib.hid (blockN hg (al_3_1 _ _ _ _))
  have HB_X := Lib.hid (blockN hg (al_3_2 _ _ _ _))
  have HG : Hid (Chg Non w w1) := Lib.hid (((((Chg.refl Non w).alloc _).alloc _).alloc _).then_non hg)
  clear hg
  obtain ⟨⟨z_R, c_R_0, c_R_1, c_R_2, c_R_3, c_R_4⟩, _⟩ := (Blk5.mk HB_R.out).all
  obtain ⟨⟨z_F, c_F_0, c_F_1, c_F_2, c_F_3⟩, _⟩ := (Blk4.mk HB_F.out).all
  obtain ⟨⟨z_X, c_X_0, c_X_1, c_X_2, c_X_3, c_X_4⟩, _⟩ := (Blk5.mk HB_X.out).all
  go_wp2_with fail
  refine (Enc_v op a b c n e1 e2 e3 e4 _ HM.out HEn.out).mono ?_
  rintro e w2 ⟨rfl, hg⟩
  have HB_R := Lib.hid (blockN ((Chg.refl Non _).then_non hg) HB_R.out)
  have HB_F := Lib.hid (blockN ((Chg.refl Non _).then_non hg) HB_F.out)
  have HB_X := Lib.hid (blockN ((Chg.refl Non _).then_non hg) HB_X.out)
  have HG : Hid (Chg Non w w2) := Lib.hid ((HG.out).then_non hg)
  clear hg z_R c_R_0 c_R_1 c_R_2 c_R_3 c_R_4 z_F c_F_0 c_F_1 c_F_2 c_F_3 z_X c_X_0 c_X_1 c_X_2 c_X_3 c_X_4
  obtain ⟨⟨z_R, c_R_0, c_R_1, c_R_2, c_R_3, c_R_4⟩, _⟩ := (Blk5.mk HB_R.out).all
  obtain ⟨⟨z_F, c_F_0, c_F_1, c_F_2, c_F_3⟩, _⟩ := (Blk4.mk HB_F.out).all
  obtain ⟨⟨z_X, c_X_0, c_X_1, c_X_2, c_X_3, c_X_4⟩, _⟩ := (Blk5.mk HB_X.out).all
  go_wp2_with fail
  clear z_R c_R_0 c_R_1 c_R_2 c_R_3 c_R_4 z_F c_F_0 c_F_1 c_F_2 c_F_3 z_X c_X_0 c_X_1 c_X_2 c_X_3 c_X_4
  refine wp_region_held_drew (S := fun v => Chg Non (w2.alloc (.cells #[.int .u8 e1, .int .u8 e2, .int .u8 e3, .int .u8 e4] 24)) v) (by kernel_rfl) ((Chg.refl Non _).drew) (fun hHeld => ?_)
  clear hHeld
  refine h_load 0 (some 31) 25 (.tmp 5) (w.heap.size + 1 + 1) 0 #[.int .u8 op, .int .u8 a, .int .u8 b, .int .u8 c, .int .i64 n] _ rfl (by kernel_rfl) (by kernel_rfl) (by kernel_rfl) (by kernel_rfl) (by kernel_rfl) (fun _ _ _ h => h) (by kernel_rfl) (by kernel_rfl) (fun w h => row_range (blockN (((Chg.refl Non _).alloc _).then_non h) HB_X.out)) Tryd.underlying25 rfl info_ins ((Chg.refl _ _).drew) ?_
  simp only [Act.put, List.setIfInBounds_toArray, List.set_cons_zero, List.set_cons_succ]
  refine h_pure 2 (some 33) (.bool true) rfl (by kernel_rfl) (by kernel_rfl) (by kernel_rfl) (by kernel_rfl) (fun _ _ _ h => h) (by kernel_rfl) (fun w e => by go_simp) ((Chg.refl _ _).drew) ?_
  simp only [Act.put, List.setIfInBounds_toArray, List.set_cons_zero, List.set_cons_succ]
  refine h_one 1 (by kernel_rfl) rfl (by kernel_rfl) ?_
  intro K hK
  go_simp
  refine (May_v op a b c n true _ HM.out).mono ?_
  rintro e y1 ⟨rfl, hg1⟩
  have HY1 := Lib.hid (((Chg.refl Non _).drew).then_non hg1)
  clear hg1
  refine hK.out _ _ HY1.out (fun _ => ?_)
  clear hK K
  refine h_pure 3 (some 34) (.bool false) rfl (by kernel_rfl) (by kernel_rfl) (by kernel_rfl) (by kernel_rfl) (fun _ _ _ h => h) (by kernel_rfl) (fun w e => by go_simp) HY1.out ?_
  simp only [Act.put, List.setIfInBounds_toArray, List.set_cons_zero, List.set_cons_succ]
  refine h_pure 4 (some 35) (.bool false) rfl (by kernel_rfl) (by kernel_rfl) (by kernel_rfl) (by kernel_rfl) (fun _ _ _ h => h) (by kernel_rfl) (fun w e => by go_simp) HY1.out ?_
  simp only [Act.put, List.setIfInBounds_toArray, List.set_cons_zero, List.set_cons_succ]
  refine h_pure 5 (some 36) (.bool true) rfl (by kernel_rfl) (by kernel_rfl) (by kernel_rfl) (by kernel_rfl) (fun _ _ _ h => h) (by kernel_rfl) (fun w e => by go_simp) HY1.out ?_
  simp only [Act.put, List.setIfInBounds_toArray, List.set_cons_zero, List.set_cons_succ]
  refine h_pure 6 (some 37) (.bool true) rfl (by kernel_rfl) (by kernel_rfl) (by kernel_rfl) (by kernel_rfl) (fun _ _ _ h => h) (by kernel_rfl) (fun w e => by go_simp) HY1.out ?_
  simp only [Act.put, List.setIfInBounds_toArray, List.set_cons_zero, List.set_cons_succ]
  refine h_load 7 (some 38) 24 (.tmp 7) w2.heap.size 0 #[.int .u8 e1, .int .u8 e2, .int .u8 e3, .int .u8 e4] _ rfl (by kernel_rfl) (by kernel_rfl) (by kernel_rfl) (by kernel_rfl) (by kernel_rfl) (fun _ _ _ h => h) (by kernel_rfl) (by kernel_rfl) (fun w h => row_range (blockN h (al_1_0 _ _))) Tryd.underlying24 rfl info_four HY1.out ?_
  simp only [Act.put, List.setIfInBounds_toArray, List.set_cons_zero, List.set_cons_succ]
  refine h_load 8 (some 39) 23 (.tmp 2) w.heap.size 0 #[.int .u8 op, .int .u8 a, .int .u8 b, .int .u8 c, .int .i64 n] _ rfl (by kernel_rfl) (by kernel_rfl) (by kernel_rfl) (by kernel_rfl) (by kernel_rfl) (fun _ _ _ h => h) (by kernel_rfl) (by kernel_rfl) (fun w h => row_range (blockN (((Chg.refl Non _).alloc _).then_non h) HB_R.out)) Tryd.underlying23 rfl info_rins HY1.out ?_
  simp only [Act.put, List.setIfInBounds_toArray, List.set_cons_zero, List.set_cons_succ]
  refine h_one 9 (by kernel_rfl) rfl (by kernel_rfl) ?_
  intro K hK
  go_simp
  refine (rBytes_ok op a b c n e1 e2 e3 e4 _ HM.out HEn.out).mono ?_
  rintro e y2 ⟨rfl, hg2⟩
  have HY2 := Lib.hid (HY1.out.then_non hg2)
  clear hg2
  refine hK.out _ _ HY2.out (fun _ => ?_)
  clear hK K
  refine h_pure 10 (some 41) (.bool false) rfl (by kernel_rfl) (by kernel_rfl) (by kernel_rfl) (by kernel_rfl) (fun _ _ _ h => h) (by kernel_rfl) (fun w e => by go_simp) HY2.out ?_
  simp only [Act.put, List.setIfInBounds_toArray, List.set_cons_zero, List.set_cons_succ]
  refine h_pure 11 (some 42) (.bool false) rfl (by kernel_rfl) (by kernel_rfl) (by kernel_rfl) (by kernel_rfl) (fun _ _ _ h => h) (by kernel_rfl) (fun w e => by go_simp) HY2.out ?_
  simp only [Act.put, List.setIfInBounds_toArray, List.set_cons_zero, List.set_cons_succ]
  refine h_pure 12 (some 43) (.int .i64 0) rfl (by kernel_rfl) (by kernel_rfl) (by kernel_rfl) (by kernel_rfl) (fun _ _ _ h => h) (by kernel_rfl) (fun w e => by go_simp) HY2.out ?_
  simp only [Act.put, List.setIfInBounds_toArray, List.set_cons_zero, List.set_cons_succ]
  refine h_pure 13 (some 44) (.bool false) rfl (by kernel_rfl) (by kernel_rfl) (by kernel_rfl) (by kernel_rfl) (fun _ _ _ h => h) (by kernel_rfl) (fun w e => by go_simp) HY2.out ?_
  simp only [Act.put, List.setIfInBounds_toArray, List.set_cons_zero, List.set_cons_succ]
  refine h_pure 14 (some 45) (.bool false) rfl (by kernel_rfl) (by kernel_rfl) (by kernel_rfl) (by kernel_rfl) (fun _ _ _ h => h) (by kernel_rfl) (fun w e => by go_simp) HY2.out ?_
  simp only [Act.put, List.setIfInBounds_toArray, List.set_cons_zero, List.set_cons_succ]
  refine h_pure 15 (some 46) (.bool false) rfl (by kernel_rfl) (by kernel_rfl) (by kernel_rfl) (by kernel_rfl) (fun _ _ _ h => h) (by kernel_rfl) (fun w e => by go_simp) HY2.out ?_
  simp only [Act.put, List.setIfInBounds_toArray, List.set_cons_zero, List.set_cons_succ]
  refine h_pure 16 (some 47) (.bool false) rfl (by kernel_rfl) (by kernel_rfl) (by kernel_rfl) (by kernel_rfl) (fun _ _ _ h => h) (by kernel_rfl) (fun w e => by go_simp) HY2.out ?_
  simp only [Act.put, List.setIfInBounds_toArray, List.set_cons_zero, List.set_cons_succ]
  refine h_pure 17 (some 48) (.bool false) rfl (by kernel_rfl) (by kernel_rfl) (by kernel_rfl) (by kernel_rfl) (fun _ _ _ h => h) (by kernel_rfl) (fun w e => by go_simp) HY2.out ?_
  simp only [Act.put, List.setIfInBounds_toArray, List.set_cons_zero, List.set_cons_succ]
  refine h_pure 18 (some 49) (.bool true) rfl (by kernel_rfl) (by kernel_rfl) (by kernel_rfl) (by kernel_rfl) (fun _ _ _ h => h) (by kernel_rfl) (fun w e => by go_simp) HY2.out ?_
  simp only [Act.put, List.setIfInBounds_toArray, List.set_cons_zero, List.set_cons_succ]
  refine h_pure 19 (some 50) (.bool false) rfl (by kernel_rfl) (by kernel_rfl) (by kernel_rfl) (by kernel_rfl) (fun _ _ _ h => h) (by kernel_rfl) (fun w e => by go_simp) HY2.out ?_
  simp only [Act.put, List.setIfInBounds_toArray, List.set_cons_zero, List.set_cons_succ]
  refine h_pure 20 (some 51) (.bool false) rfl (by kernel_rfl) (by kernel_rfl) (by kernel_rfl) (by kernel_rfl) (fun _ _ _ h => h) (by kernel_rfl) (fun w e => by go_simp) HY2.out ?_
  simp only [Act.put, List.setIfInBounds_toArray, List.set_cons_zero, List.set_cons_succ]
  refine h_skip 21 (some 52) rfl (by kernel_rfl) (by kernel_rfl) (by kernel_rfl) (by kernel_rfl) (fun _ _ _ h => h) (by kernel_rfl) HY2.out ?_
  simp only [Act.put, List.setIfInBounds_toArray, List.set_cons_zero, List.set_cons_succ]
  refine h_skip 22 (some 53) rfl (by kernel_rfl) (by kernel_rfl) (by kernel_rfl) (by kernel_rfl) (fun _ _ _ h => h) (by kernel_rfl) HY2.out ?_
  simp only [Act.put, List.setIfInBounds_toArray, List.set_cons_zero, List.set_cons_succ]
  refine h_skip 23 (some 54) rfl (by kernel_rfl) (by kernel_rfl) (by kernel_rfl) (by kernel_rfl) (fun _ _ _ h => h) (by kernel_rfl) HY2.out ?_
  simp only [Act.put, List.setIfInBounds_toArray, List.set_cons_zero, List.set_cons_succ]
  refine h_skip 24 (some 55) rfl (by kernel_rfl) (by kernel_rfl) (by kernel_rfl) (by kernel_rfl) (fun _ _ _ h => h) (by kernel_rfl) HY2.out ?_
  simp only [Act.put, List.setIfInBounds_toArray, List.set_cons_zero, List.set_cons_succ]
  refine h_skip 25 (some 56) rfl (by kernel_rfl) (by kernel_rfl) (by kernel_rfl) (by kernel_rfl) (fun _ _ _ h => h) (by kernel_rfl) HY2.out ?_
  simp only [Act.put, List.setIfInBounds_toArray, List.set_cons_zero, List.set_cons_succ]
  refine h_skip 26 (some 57) rfl (by kernel_rfl) (by kernel_rfl) (by kernel_rfl) (by kernel_rfl) (fun _ _ _ h => h) (by kernel_rfl) HY2.out ?_
  simp only [Act.put, List.setIfInBounds_toArray, List.set_cons_zero, List.set_cons_succ]
  refine h_skip 27 (some 58) rfl (by kernel_rfl) (by kernel_rfl) (by kernel_rfl) (by kernel_rfl) (fun _ _ _ h => h) (by kernel_rfl) HY2.out ?_
  simp only [Act.put, List.setIfInBounds_toArray, List.set_cons_zero, List.set_cons_succ]
  refine h_pure 28 (some 59) (.bool false) rfl (by kernel_rfl) (by kernel_rfl) (by kernel_rfl) (by kernel_rfl) (fun _ _ _ h => h) (by kernel_rfl) (fun w e => by go_simp) HY2.out ?_
  simp only [Act.put, List.setIfInBounds_toArray, List.set_cons_zero, List.set_cons_succ]
  refine h_pure 29 (some 60) (.bool false) rfl (by kernel_rfl) (by kernel_rfl) (by kernel_rfl) (by kernel_rfl) (fun _ _ _ h => h) (by kernel_rfl) (fun w e => by go_simp) HY2.out ?_
  simp only [Act.put, List.setIfInBounds_toArray, List.set_cons_zero, List.set_cons_succ]
  refine wpAnyH_done (by kernel_rfl) ?_ _
  have hg := HY2.out
  have HB_R := Lib.hid (blockN (((Chg.refl Non _).alloc _).then_non hg) HB_R.out)
  have HB_F := Lib.hid (blockN (((Chg.refl Non _).alloc _).then_non hg) HB_F.out)
  have HB_X := Lib.hid (blockN (((Chg.refl Non _).alloc _).then_non hg) HB_X.out)
  have HB_E := Lib.hid (blockN hg (al_1_0 _ _))
  have HG : Hid (Chg Non w y2) := Lib.hid (((HG.out).alloc _).then_non hg)
  clear hg
  obtain ⟨⟨z_R, c_R_0, c_R_1, c_R_2, c_R_3, c_R_4⟩, _⟩ := (Blk5.mk HB_R.out).all
  obtain ⟨⟨z_F, c_F_0, c_F_1, c_F_2, c_F_3⟩, _⟩ := (Blk4.mk HB_F.out).all
  obtain ⟨⟨z_X, c_X_0, c_X_1, c_X_2, c_X_3, c_X_4⟩, _⟩ := (Blk5.mk HB_X.out).all
  obtain ⟨⟨z_E, c_E_0, c_E_1, c_E_2, c_E_3⟩, _⟩ := (Blk4.mk HB_E.out).all
  go_wp2_with fail
  refine (Dec_v p q r s op2 a2 b2 c2 n2 _ HF.out HD2.out HD.out).mono ?_
  rintro e w3 ⟨rfl, hg⟩
  have HB_R := Lib.hid (blockN ((Chg.refl Non _).then_non hg) HB_R.out)
  have HB_F := Lib.hid (blockN ((Chg.refl Non _).then_non hg) HB_F.out)
  have HB_X := Lib.hid (blockN ((Chg.refl Non _).then_non hg) HB_X.out)
  have HB_E := Lib.hid (blockN ((Chg.refl Non _).then_non hg) HB_E.out)
  have HG : Hid (Chg Non w w3) := Lib.hid ((HG.out).then_non hg)
  clear hg z_R c_R_0 c_R_1 c_R_2 c_R_3 c_R_4 z_F c_F_0 c_F_1 c_F_2 c_F_3 z_X c_X_0 c_X_1 c_X_2 c_X_3 c_X_4 z_E c_E_0 c_E_1 c_E_2 c_E_3
  obtain ⟨⟨z_R, c_R_0, c_R_1, c_R_2, c_R_3, c_R_4⟩, _⟩ := (Blk5.mk HB_R.out).all
  obtain ⟨⟨z_F, c_F_0, c_F_1, c_F_2, c_F_3⟩, _⟩ := (Blk4.mk HB_F.out).all
  obtain ⟨⟨z_X, c_X_0, c_X_1, c_X_2, c_X_3, c_X_4⟩, _⟩ := (Blk5.mk HB_X.out).all
  obtain ⟨⟨z_E, c_E_0, c_E_1, c_E_2, c_E_3⟩, _⟩ := (Blk4.mk HB_E.out).all
  go_wp2_with fail
  refine (rDec_v p q r s op2 a2 b2 c2 n2 _ HF.out HD2.out HD.out).mono ?_
  rintro e w4 ⟨rfl, hg⟩
  have HB_R := Lib.hid (blockN (((Chg.refl Non _).alloc _).then_non hg) HB_R.out)
  have HB_F := Lib.hid (blockN (((Chg.refl Non _).alloc _).then_non hg) HB_F.out)
  have HB_X := Lib.hid (blockN (((Chg.refl Non _).alloc _).then_non hg) HB_X.out)
  have HB_E := Lib.hid (blockN (((Chg.refl Non _).alloc _).then_non hg) HB_E.out)
  have HB_Y := Lib.hid (blockN hg (al_1_0 _ _))
  have HG : Hid (Chg Non w w4) := Lib.hid (((HG.out).alloc _).then_non hg)
  clear hg z_R c_R_0 c_R_1 c_R_2 c_R_3 c_R_4 z_F c_F_0 c_F_1 c_F_2 c_F_3 z_X c_X_0 c_X_1 c_X_2 c_X_3 c_X_4 z_E c_E_0 c_E_1 c_E_2 c_E_3
  obtain ⟨⟨z_R, c_R_0, c_R_1, c_R_2, c_R_3, c_R_4⟩, _⟩ := (Blk5.mk HB_R.out).all
  obtain ⟨⟨z_F, c_F_0, c_F_1, c_F_2, c_F_3⟩, _⟩ := (Blk4.mk HB_F.out).all
  obtain ⟨⟨z_X, c_X_0, c_X_1, c_X_2, c_X_3, c_X_4⟩, _⟩ := (Blk5.mk HB_X.out).all
  obtain ⟨⟨z_E, c_E_0, c_E_1, c_E_2, c_E_3⟩, _⟩ := (Blk4.mk HB_E.out).all
  obtain ⟨⟨z_Y, c_Y_0, c_Y_1, c_Y_2, c_Y_3, c_Y_4⟩, _⟩ := (Blk5.mk HB_Y.out).all
  go_wp2_with fail
  refine (is_ok op2 a2 b2 c2 n2 _).mono ?_
  rintro e w5 ⟨rfl, hg⟩
  have HB_R := Lib.hid (blockN (((Chg.refl Non _).alloc _).then_non hg) HB_R.out)
  have HB_F := Lib.hid (blockN (((Chg.refl Non _).alloc _).then_non hg) HB_F.out)
  have HB_X := Lib.hid (blockN (((Chg.refl Non _).alloc _).then_non hg) HB_X.out)
  have HB_E := Lib.hid (blockN (((Chg.refl Non _).alloc _).then_non hg) HB_E.out)
  have HB_Y := Lib.hid (blockN (((Chg.refl Non _).alloc _).then_non hg) HB_Y.out)
  have HB_Z := Lib.hid (blockN hg (al_1_0 _ _))
  have HG : Hid (Chg Non w w5) := Lib.hid (((HG.out).alloc _).then_non hg)
  clear hg z_R c_R_0 c_R_1 c_R_2 c_R_3 c_R_4 z_F c_F_0 c_F_1 c_F_2 c_F_3 z_X c_X_0 c_X_1 c_X_2 c_X_3 c_X_4 z_E c_E_0 c_E_1 c_E_2 c_E_3 z_Y c_Y_0 c_Y_1 c_Y_2 c_Y_3 c_Y_4
  obtain ⟨⟨z_R, c_R_0, c_R_1, c_R_2, c_R_3, c_R_4⟩, _⟩ := (Blk5.mk HB_R.out).all
  obtain ⟨⟨z_F, c_F_0, c_F_1, c_F_2, c_F_3⟩, _⟩ := (Blk4.mk HB_F.out).all
  obtain ⟨⟨z_X, c_X_0, c_X_1, c_X_2, c_X_3, c_X_4⟩, _⟩ := (Blk5.mk HB_X.out).all
  obtain ⟨⟨z_E, c_E_0, c_E_1, c_E_2, c_E_3⟩, _⟩ := (Blk4.mk HB_E.out).all
  obtain ⟨⟨z_Y, c_Y_0, c_Y_1, c_Y_2, c_Y_3, c_Y_4⟩, _⟩ := (Blk5.mk HB_Y.out).all
  obtain ⟨⟨z_Z, c_Z_0, c_Z_1, c_Z_2, c_Z_3, c_Z_4⟩, _⟩ := (Blk5.mk HB_Z.out).all
  go_wp2_with fail
  refine (iawake_ok _ (HE.out.non HG.out)).mono ?_
  rintro e w6 ⟨rfl, hg⟩
  have HB_R := Lib.hid (blockN ((Chg.refl Non _).then_non hg) HB_R.out)
  have HB_F := Lib.hid (blockN ((Chg.refl Non _).then_non hg) HB_F.out)
  have HB_X := Lib.hid (blockN ((Chg.refl Non _).then_non hg) HB_X.out)
  have HB_E := Lib.hid (blockN ((Chg.refl Non _).then_non hg) HB_E.out)
  have HB_Y := Lib.hid (blockN ((Chg.refl Non _).then_non hg) HB_Y.out)
  have HB_Z := Lib.hid (blockN ((Chg.refl Non _).then_non hg) HB_Z.out)
  have HG : Hid (Chg Non w w6) := Lib.hid ((HG.out).then_non hg)
  clear hg z_R c_R_0 c_R_1 c_R_2 c_R_3 c_R_4 z_F c_F_0 c_F_1 c_F_2 c_F_3 z_X c_X_0 c_X_1 c_X_2 c_X_3 c_X_4 z_E c_E_0 c_E_1 c_E_2 c_E_3 z_Y c_Y_0 c_Y_1 c_Y_2 c_Y_3 c_Y_4 z_Z c_Z_0 c_Z_1 c_Z_2 c_Z_3 c_Z_4
  obtain ⟨⟨z_R, c_R_0, c_R_1, c_R_2, c_R_3, c_R_4⟩, _⟩ := (Blk5.mk HB_R.out).all
  obtain ⟨⟨z_F, c_F_0, c_F_1, c_F_2, c_F_3⟩, _⟩ := (Blk4.mk HB_F.out).all
  obtain ⟨⟨z_X, c_X_0, c_X_1, c_X_2, c_X_3, c_X_4⟩, _⟩ := (Blk5.mk HB_X.out).all
  obtain ⟨⟨z_E, c_E_0, c_E_1, c_E_2, c_E_3⟩, _⟩ := (Blk4.mk HB_E.out).all
  obtain ⟨⟨z_Y, c_Y_0, c_Y_1, c_Y_2, c_Y_3, c_Y_4⟩, _⟩ := (Blk5.mk HB_Y.out).all
  obtain ⟨⟨z_Z, c_Z_0, c_Z_1, c_Z_2, c_Z_3, c_Z_4⟩, _⟩ := (Blk5.mk HB_Z.out).all
  go_wp2_with fail
  go_ret
  exact ⟨rfl, HG.out⟩

set_option maxRecDepth 100000 in
set_option maxHeartbeats 4000000 in
theorem bytes_10 (op a b c : Nat) (n : Int) (p q r s : Nat) (w : World) (hE : Env w) (hx : Ins.Bd ⟨op, a, b, c, n⟩) (hf : Four (p, q, r, s)) (hm : mayB ⟨op, a, b, c, n⟩ = true) (hd : mayB (decI p q r s) = false) :
    Calls Tryd.prog 3 #[.agg #[.int .u8 op, .int .u8 a, .int .u8 b, .int .u8 c, .int .i64 n], .agg #[.int .u8 p, .int .u8 q, .int .u8 r, .int .u8 s]] w fun e w' => e = .returned (.bool true) ∧ Chg Non w w' := by
  have HE := Lib.hid hE
  have HX := Lib.hid hx
  have HF := Lib.hid hf
  have HM := Lib.hid hm
  have HD := Lib.hid hd
  have HRM : Hid (∀ w, Calls Tryd.prog 9 #[.agg #[.int .u8 op, .int .u8 a, .int .u8 b, .int .u8 c, .int .i64 n]] w fun e w' => e = .returned (.bool true) ∧ Chg Non w w') := Lib.hid (fun w => by have h := rMay_ok op a b c n w hx; rw [hm] at h; exact h)
  clear hE hx hf hm hd
  obtain ⟨⟨e1, e2, e3, e4⟩, he⟩ : ∃ f, encI ⟨op, a, b, c, n⟩ = f := ⟨_, rfl⟩
  have HEn := Lib.hid he
  have HFo := Lib.hid (enc_four HM.out he)
  clear he
  have k4 := four_eq e1 e2 e3 e4 HFo.out.1
  go_enter Tryd.func3, Tryd.ntmps3
  go_wp2_with fail
  refine (HRM.out _).mono ?_
  rintro e w1 ⟨rfl, hg⟩
  have HB_R := Lib.hid (blockN hg (al_3_0 _ _ _ _))
  have HB_F := Lib.hid (blockN hg (al_3_1 _ _ _ _))
  have HB_X := Lib.hid (blockN hg (al_3_2 _ _ _ _))
  have HG : Hid (Chg Non w w1) := Lib.hid (((((Chg.refl Non w).alloc _).alloc _).alloc _).then_non hg)
  clear hg
  obtain ⟨⟨z_R, c_R_0, c_R_1, c_R_2, c_R_3, c_R_4⟩, _⟩ := (Blk5.mk HB_R.out).all
  obtain ⟨⟨z_F, c_F_0, c_F_1, c_F_2, c_F_3⟩, _⟩ := (Blk4.mk HB_F.out).all
  obtain ⟨⟨z_X, c_X_0, c_X_1, c_X_2, c_X_3, c_X_4⟩, _⟩ := (Blk5.mk HB_X.out).all
  go_wp2_with fail
  refine (Enc_v op a b c n e1 e2 e3 e4 _ HM.out HEn.out).mono ?_
  rintro e w2 ⟨rfl, hg⟩
  have HB_R := Lib.hid (blockN ((Chg.refl Non _).then_non hg) HB_R.out)
  have HB_F := Lib.hid (blockN ((Chg.refl Non _).then_non hg) HB_F.out)
  have HB_X := Lib.hid (blockN ((Chg.refl Non _).then_non hg) HB_X.out)
  have HG : Hid (Chg Non w w2) := Lib.hid ((HG.out).then_non hg)
  clear hg z_R c_R_0 c_R_1 c_R_2 c_R_3 c_R_4 z_F c_F_0 c_F_1 c_F_2 c_F_3 z_X c_X_0 c_X_1 c_X_2 c_X_3 c_X_4
  obtain ⟨⟨z_R, c_R_0, c_R_1, c_R_2, c_R_3, c_R_4⟩, _⟩ := (Blk5.mk HB_R.out).all
  obtain ⟨⟨z_F, c_F_0, c_F_1, c_F_2, c_F_3⟩, _⟩ := (Blk4.mk HB_F.out).all
  obtain ⟨⟨z_X, c_X_0, c_X_1, c_X_2, c_X_3, c_X_4⟩, _⟩ := (Blk5.mk HB_X.out).all
  go_wp2_with fail
  clear z_R c_R_0 c_R_1 c_R_2 c_R_3 c_R_4 z_F c_F_0 c_F_1 c_F_2 c_F_3 z_X c_X_0 c_X_1 c_X_2 c_X_3 c_X_4
  refine wp_region_held_drew (S := fun v => Chg Non (w2.alloc (.cells #[.int .u8 e1, .int .u8 e2, .int .u8 e3, .int .u8 e4] 24)) v) (by kernel_rfl) ((Chg.refl Non _).drew) (fun hHeld => ?_)
  clear hHeld
  refine h_load 0 (some 31) 25 (.tmp 5) (w.heap.size + 1 + 1) 0 #[.int .u8 op, .int .u8 a, .int .u8 b, .int .u8 c, .int .i64 n] _ rfl (by kernel_rfl) (by kernel_rfl) (by kernel_rfl) (by kernel_rfl) (by kernel_rfl) (fun _ _ _ h => h) (by kernel_rfl) (by kernel_rfl) (fun w h => row_range (blockN (((Chg.refl Non _).alloc _).then_non h) HB_X.out)) Tryd.underlying25 rfl info_ins ((Chg.refl _ _).drew) ?_
  simp only [Act.put, List.setIfInBounds_toArray, List.set_cons_zero, List.set_cons_succ]
  refine h_pure 2 (some 33) (.bool true) rfl (by kernel_rfl) (by kernel_rfl) (by kernel_rfl) (by kernel_rfl) (fun _ _ _ h => h) (by kernel_rfl) (fun w e => by go_simp) ((Chg.refl _ _).drew) ?_
  simp only [Act.put, List.setIfInBounds_toArray, List.set_cons_zero, List.set_cons_succ]
  refine h_one 1 (by kernel_rfl) rfl (by kernel_rfl) ?_
  intro K hK
  go_simp
  refine (May_v op a b c n true _ HM.out).mono ?_
  rintro e y1 ⟨rfl, hg1⟩
  have HY1 := Lib.hid (((Chg.refl Non _).drew).then_non hg1)
  clear hg1
  refine hK.out _ _ HY1.out (fun _ => ?_)
  clear hK K
  refine h_pure 3 (some 34) (.bool false) rfl (by kernel_rfl) (by kernel_rfl) (by kernel_rfl) (by kernel_rfl) (fun _ _ _ h => h) (by kernel_rfl) (fun w e => by go_simp) HY1.out ?_
  simp only [Act.put, List.setIfInBounds_toArray, List.set_cons_zero, List.set_cons_succ]
  refine h_pure 4 (some 35) (.bool false) rfl (by kernel_rfl) (by kernel_rfl) (by kernel_rfl) (by kernel_rfl) (fun _ _ _ h => h) (by kernel_rfl) (fun w e => by go_simp) HY1.out ?_
  simp only [Act.put, List.setIfInBounds_toArray, List.set_cons_zero, List.set_cons_succ]
  refine h_pure 5 (some 36) (.bool true) rfl (by kernel_rfl) (by kernel_rfl) (by kernel_rfl) (by kernel_rfl) (fun _ _ _ h => h) (by kernel_rfl) (fun w e => by go_simp) HY1.out ?_
  simp only [Act.put, List.setIfInBounds_toArray, List.set_cons_zero, List.set_cons_succ]
  refine h_pure 6 (some 37) (.bool true) rfl (by kernel_rfl) (by kernel_rfl) (by kernel_rfl) (by kernel_rfl) (fun _ _ _ h => h) (by kernel_rfl) (fun w e => by go_simp) HY1.out ?_
  simp only [Act.put, List.setIfInBounds_toArray, List.set_cons_zero, List.set_cons_succ]
  refine h_load 7 (some 38) 24 (.tmp 7) w2.heap.size 0 #[.int .u8 e1, .int .u8 e2, .int .u8 e3, .int .u8 e4] _ rfl (by kernel_rfl) (by kernel_rfl) (by kernel_rfl) (by kernel_rfl) (by kernel_rfl) (fun _ _ _ h => h) (by kernel_rfl) (by kernel_rfl) (fun w h => row_range (blockN h (al_1_0 _ _))) Tryd.underlying24 rfl info_four HY1.out ?_
  simp only [Act.put, List.setIfInBounds_toArray, List.set_cons_zero, List.set_cons_succ]
  refine h_load 8 (some 39) 23 (.tmp 2) w.heap.size 0 #[.int .u8 op, .int .u8 a, .int .u8 b, .int .u8 c, .int .i64 n] _ rfl (by kernel_rfl) (by kernel_rfl) (by kernel_rfl) (by kernel_rfl) (by kernel_rfl) (fun _ _ _ h => h) (by kernel_rfl) (by kernel_rfl) (fun w h => row_range (blockN (((Chg.refl Non _).alloc _).then_non h) HB_R.out)) Tryd.underlying23 rfl info_rins HY1.out ?_
  simp only [Act.put, List.setIfInBounds_toArray, List.set_cons_zero, List.set_cons_succ]
  refine h_one 9 (by kernel_rfl) rfl (by kernel_rfl) ?_
  intro K hK
  go_simp
  refine (rBytes_ok op a b c n e1 e2 e3 e4 _ HM.out HEn.out).mono ?_
  rintro e y2 ⟨rfl, hg2⟩
  have HY2 := Lib.hid (HY1.out.then_non hg2)
  clear hg2
  refine hK.out _ _ HY2.out (fun _ => ?_)
  clear hK K
  refine h_pure 10 (some 41) (.bool false) rfl (by kernel_rfl) (by kernel_rfl) (by kernel_rfl) (by kernel_rfl) (fun _ _ _ h => h) (by kernel_rfl) (fun w e => by go_simp) HY2.out ?_
  simp only [Act.put, List.setIfInBounds_toArray, List.set_cons_zero, List.set_cons_succ]
  refine h_pure 11 (some 42) (.bool false) rfl (by kernel_rfl) (by kernel_rfl) (by kernel_rfl) (by kernel_rfl) (fun _ _ _ h => h) (by kernel_rfl) (fun w e => by go_simp) HY2.out ?_
  simp only [Act.put, List.setIfInBounds_toArray, List.set_cons_zero, List.set_cons_succ]
  refine h_pure 12 (some 43) (.int .i64 0) rfl (by kernel_rfl) (by kernel_rfl) (by kernel_rfl) (by kernel_rfl) (fun _ _ _ h => h) (by kernel_rfl) (fun w e => by go_simp) HY2.out ?_
  simp only [Act.put, List.setIfInBounds_toArray, List.set_cons_zero, List.set_cons_succ]
  refine h_pure 13 (some 44) (.bool false) rfl (by kernel_rfl) (by kernel_rfl) (by kernel_rfl) (by kernel_rfl) (fun _ _ _ h => h) (by kernel_rfl) (fun w e => by go_simp) HY2.out ?_
  simp only [Act.put, List.setIfInBounds_toArray, List.set_cons_zero, List.set_cons_succ]
  refine h_pure 14 (some 45) (.bool false) rfl (by kernel_rfl) (by kernel_rfl) (by kernel_rfl) (by kernel_rfl) (fun _ _ _ h => h) (by kernel_rfl) (fun w e => by go_simp) HY2.out ?_
  simp only [Act.put, List.setIfInBounds_toArray, List.set_cons_zero, List.set_cons_succ]
  refine h_pure 15 (some 46) (.bool false) rfl (by kernel_rfl) (by kernel_rfl) (by kernel_rfl) (by kernel_rfl) (fun _ _ _ h => h) (by kernel_rfl) (fun w e => by go_simp) HY2.out ?_
  simp only [Act.put, List.setIfInBounds_toArray, List.set_cons_zero, List.set_cons_succ]
  refine h_pure 16 (some 47) (.bool false) rfl (by kernel_rfl) (by kernel_rfl) (by kernel_rfl) (by kernel_rfl) (fun _ _ _ h => h) (by kernel_rfl) (fun w e => by go_simp) HY2.out ?_
  simp only [Act.put, List.setIfInBounds_toArray, List.set_cons_zero, List.set_cons_succ]
  refine h_pure 17 (some 48) (.bool false) rfl (by kernel_rfl) (by kernel_rfl) (by kernel_rfl) (by kernel_rfl) (fun _ _ _ h => h) (by kernel_rfl) (fun w e => by go_simp) HY2.out ?_
  simp only [Act.put, List.setIfInBounds_toArray, List.set_cons_zero, List.set_cons_succ]
  refine h_pure 18 (some 49) (.bool true) rfl (by kernel_rfl) (by kernel_rfl) (by kernel_rfl) (by kernel_rfl) (fun _ _ _ h => h) (by kernel_rfl) (fun w e => by go_simp) HY2.out ?_
  simp only [Act.put, List.setIfInBounds_toArray, List.set_cons_zero, List.set_cons_succ]
  refine h_pure 19 (some 50) (.bool false) rfl (by kernel_rfl) (by kernel_rfl) (by kernel_rfl) (by kernel_rfl) (fun _ _ _ h => h) (by kernel_rfl) (fun w e => by go_simp) HY2.out ?_
  simp only [Act.put, List.setIfInBounds_toArray, List.set_cons_zero, List.set_cons_succ]
  refine h_pure 20 (some 51) (.bool false) rfl (by kernel_rfl) (by kernel_rfl) (by kernel_rfl) (by kernel_rfl) (fun _ _ _ h => h) (by kernel_rfl) (fun w e => by go_simp) HY2.out ?_
  simp only [Act.put, List.setIfInBounds_toArray, List.set_cons_zero, List.set_cons_succ]
  refine h_skip 21 (some 52) rfl (by kernel_rfl) (by kernel_rfl) (by kernel_rfl) (by kernel_rfl) (fun _ _ _ h => h) (by kernel_rfl) HY2.out ?_
  simp only [Act.put, List.setIfInBounds_toArray, List.set_cons_zero, List.set_cons_succ]
  refine h_skip 22 (some 53) rfl (by kernel_rfl) (by kernel_rfl) (by kernel_rfl) (by kernel_rfl) (fun _ _ _ h => h) (by kernel_rfl) HY2.out ?_
  simp only [Act.put, List.setIfInBounds_toArray, List.set_cons_zero, List.set_cons_succ]
  refine h_skip 23 (some 54) rfl (by kernel_rfl) (by kernel_rfl) (by kernel_rfl) (by kernel_rfl) (fun _ _ _ h => h) (by kernel_rfl) HY2.out ?_
  simp only [Act.put, List.setIfInBounds_toArray, List.set_cons_zero, List.set_cons_succ]
  refine h_skip 24 (some 55) rfl (by kernel_rfl) (by kernel_rfl) (by kernel_rfl) (by kernel_rfl) (fun _ _ _ h => h) (by kernel_rfl) HY2.out ?_
  simp only [Act.put, List.setIfInBounds_toArray, List.set_cons_zero, List.set_cons_succ]
  refine h_skip 25 (some 56) rfl (by kernel_rfl) (by kernel_rfl) (by kernel_rfl) (by kernel_rfl) (fun _ _ _ h => h) (by kernel_rfl) HY2.out ?_
  simp only [Act.put, List.setIfInBounds_toArray, List.set_cons_zero, List.set_cons_succ]
  refine h_skip 26 (some 57) rfl (by kernel_rfl) (by kernel_rfl) (by kernel_rfl) (by kernel_rfl) (fun _ _ _ h => h) (by kernel_rfl) HY2.out ?_
  simp only [Act.put, List.setIfInBounds_toArray, List.set_cons_zero, List.set_cons_succ]
  refine h_skip 27 (some 58) rfl (by kernel_rfl) (by kernel_rfl) (by kernel_rfl) (by kernel_rfl) (fun _ _ _ h => h) (by kernel_rfl) HY2.out ?_
  simp only [Act.put, List.setIfInBounds_toArray, List.set_cons_zero, List.set_cons_succ]
  refine h_pure 28 (some 59) (.bool false) rfl (by kernel_rfl) (by kernel_rfl) (by kernel_rfl) (by kernel_rfl) (fun _ _ _ h => h) (by kernel_rfl) (fun w e => by go_simp) HY2.out ?_
  simp only [Act.put, List.setIfInBounds_toArray, List.set_cons_zero, List.set_cons_succ]
  refine h_pure 29 (some 60) (.bool false) rfl (by kernel_rfl) (by kernel_rfl) (by kernel_rfl) (by kernel_rfl) (fun _ _ _ h => h) (by kernel_rfl) (fun w e => by go_simp) HY2.out ?_
  simp only [Act.put, List.setIfInBounds_toArray, List.set_cons_zero, List.set_cons_succ]
  refine wpAnyH_done (by kernel_rfl) ?_ _
  have hg := HY2.out
  have HB_R := Lib.hid (blockN (((Chg.refl Non _).alloc _).then_non hg) HB_R.out)
  have HB_F := Lib.hid (blockN (((Chg.refl Non _).alloc _).then_non hg) HB_F.out)
  have HB_X := Lib.hid (blockN (((Chg.refl Non _).alloc _).then_non hg) HB_X.out)
  have HB_E := Lib.hid (blockN hg (al_1_0 _ _))
  have HG : Hid (Chg Non w y2) := Lib.hid (((HG.out).alloc _).then_non hg)
  clear hg
  obtain ⟨⟨z_R, c_R_0, c_R_1, c_R_2, c_R_3, c_R_4⟩, _⟩ := (Blk5.mk HB_R.out).all
  obtain ⟨⟨z_F, c_F_0, c_F_1, c_F_2, c_F_3⟩, _⟩ := (Blk4.mk HB_F.out).all
  obtain ⟨⟨z_X, c_X_0, c_X_1, c_X_2, c_X_3, c_X_4⟩, _⟩ := (Blk5.mk HB_X.out).all
  obtain ⟨⟨z_E, c_E_0, c_E_1, c_E_2, c_E_3⟩, _⟩ := (Blk4.mk HB_E.out).all
  go_wp2_with fail
  refine (Dec_n p q r s _ HF.out HD.out).mono ?_
  rintro e w3 ⟨rfl, hg⟩
  have HB_R := Lib.hid (blockN ((Chg.refl Non _).then_non hg) HB_R.out)
  have HB_F := Lib.hid (blockN ((Chg.refl Non _).then_non hg) HB_F.out)
  have HB_X := Lib.hid (blockN ((Chg.refl Non _).then_non hg) HB_X.out)
  have HB_E := Lib.hid (blockN ((Chg.refl Non _).then_non hg) HB_E.out)
  have HG : Hid (Chg Non w w3) := Lib.hid ((HG.out).then_non hg)
  clear hg z_R c_R_0 c_R_1 c_R_2 c_R_3 c_R_4 z_F c_F_0 c_F_1 c_F_2 c_F_3 z_X c_X_0 c_X_1 c_X_2 c_X_3 c_X_4 z_E c_E_0 c_E_1 c_E_2 c_E_3
  obtain ⟨⟨z_R, c_R_0, c_R_1, c_R_2, c_R_3, c_R_4⟩, _⟩ := (Blk5.mk HB_R.out).all
  obtain ⟨⟨z_F, c_F_0, c_F_1, c_F_2, c_F_3⟩, _⟩ := (Blk4.mk HB_F.out).all
  obtain ⟨⟨z_X, c_X_0, c_X_1, c_X_2, c_X_3, c_X_4⟩, _⟩ := (Blk5.mk HB_X.out).all
  obtain ⟨⟨z_E, c_E_0, c_E_1, c_E_2, c_E_3⟩, _⟩ := (Blk4.mk HB_E.out).all
  go_wp2_with fail
  refine (rDec_n p q r s _ HF.out HD.out).mono ?_
  rintro e w4 ⟨rfl, hg⟩
  have HB_R := Lib.hid (blockN (((Chg.refl Non _).alloc _).then_non hg) HB_R.out)
  have HB_F := Lib.hid (blockN (((Chg.refl Non _).alloc _).then_non hg) HB_F.out)
  have HB_X := Lib.hid (blockN (((Chg.refl Non _).alloc _).then_non hg) HB_X.out)
  have HB_E := Lib.hid (blockN (((Chg.refl Non _).alloc _).then_non hg) HB_E.out)
  have HB_Y := Lib.hid (blockN hg (al_1_0 _ _))
  have HG : Hid (Chg Non w w4) := Lib.hid (((HG.out).alloc _).then_non hg)
  clear hg z_R c_R_0 c_R_1 c_R_2 c_R_3 c_R_4 z_F c_F_0 c_F_1 c_F_2 c_F_3 z_X c_X_0 c_X_1 c_X_2 c_X_3 c_X_4 z_E c_E_0 c_E_1 c_E_2 c_E_3
  obtain ⟨⟨z_R, c_R_0, c_R_1, c_R_2, c_R_3, c_R_4⟩, _⟩ := (Blk5.mk HB_R.out).all
  obtain ⟨⟨z_F, c_F_0, c_F_1, c_F_2, c_F_3⟩, _⟩ := (Blk4.mk HB_F.out).all
  obtain ⟨⟨z_X, c_X_0, c_X_1, c_X_2, c_X_3, c_X_4⟩, _⟩ := (Blk5.mk HB_X.out).all
  obtain ⟨⟨z_E, c_E_0, c_E_1, c_E_2, c_E_3⟩, _⟩ := (Blk4.mk HB_E.out).all
  obtain ⟨⟨z_Y, c_Y_0, c_Y_1, c_Y_2, c_Y_3, c_Y_4⟩, _⟩ := (Blk5.mk HB_Y.out).all
  go_wp2_with fail
  refine (is_ok 0 0 0 0 0 _).mono ?_
  rintro e w5 ⟨rfl, hg⟩
  have HB_R := Lib.hid (blockN (((Chg.refl Non _).alloc _).then_non hg) HB_R.out)
  have HB_F := Lib.hid (blockN (((Chg.refl Non _).alloc _).then_non hg) HB_F.out)
  have HB_X := Lib.hid (blockN (((Chg.refl Non _).alloc _).then_non hg) HB_X.out)
  have HB_E := Lib.hid (blockN (((Chg.refl Non _).alloc _).then_non hg) HB_E.out)
  have HB_Y := Lib.hid (blockN (((Chg.refl Non _).alloc _).then_non hg) HB_Y.out)
  have HB_Z := Lib.hid (blockN hg (al_1_0 _ _))
  have HG : Hid (Chg Non w w5) := Lib.hid (((HG.out).alloc _).then_non hg)
  clear hg z_R c_R_0 c_R_1 c_R_2 c_R_3 c_R_4 z_F c_F_0 c_F_1 c_F_2 c_F_3 z_X c_X_0 c_X_1 c_X_2 c_X_3 c_X_4 z_E c_E_0 c_E_1 c_E_2 c_E_3 z_Y c_Y_0 c_Y_1 c_Y_2 c_Y_3 c_Y_4
  obtain ⟨⟨z_R, c_R_0, c_R_1, c_R_2, c_R_3, c_R_4⟩, _⟩ := (Blk5.mk HB_R.out).all
  obtain ⟨⟨z_F, c_F_0, c_F_1, c_F_2, c_F_3⟩, _⟩ := (Blk4.mk HB_F.out).all
  obtain ⟨⟨z_X, c_X_0, c_X_1, c_X_2, c_X_3, c_X_4⟩, _⟩ := (Blk5.mk HB_X.out).all
  obtain ⟨⟨z_E, c_E_0, c_E_1, c_E_2, c_E_3⟩, _⟩ := (Blk4.mk HB_E.out).all
  obtain ⟨⟨z_Y, c_Y_0, c_Y_1, c_Y_2, c_Y_3, c_Y_4⟩, _⟩ := (Blk5.mk HB_Y.out).all
  obtain ⟨⟨z_Z, c_Z_0, c_Z_1, c_Z_2, c_Z_3, c_Z_4⟩, _⟩ := (Blk5.mk HB_Z.out).all
  go_wp2_with fail
  refine (iawake_ok _ (HE.out.non HG.out)).mono ?_
  rintro e w6 ⟨rfl, hg⟩
  have HB_R := Lib.hid (blockN ((Chg.refl Non _).then_non hg) HB_R.out)
  have HB_F := Lib.hid (blockN ((Chg.refl Non _).then_non hg) HB_F.out)
  have HB_X := Lib.hid (blockN ((Chg.refl Non _).then_non hg) HB_X.out)
  have HB_E := Lib.hid (blockN ((Chg.refl Non _).then_non hg) HB_E.out)
  have HB_Y := Lib.hid (blockN ((Chg.refl Non _).then_non hg) HB_Y.out)
  have HB_Z := Lib.hid (blockN ((Chg.refl Non _).then_non hg) HB_Z.out)
  have HG : Hid (Chg Non w w6) := Lib.hid ((HG.out).then_non hg)
  clear hg z_R c_R_0 c_R_1 c_R_2 c_R_3 c_R_4 z_F c_F_0 c_F_1 c_F_2 c_F_3 z_X c_X_0 c_X_1 c_X_2 c_X_3 c_X_4 z_E c_E_0 c_E_1 c_E_2 c_E_3 z_Y c_Y_0 c_Y_1 c_Y_2 c_Y_3 c_Y_4 z_Z c_Z_0 c_Z_1 c_Z_2 c_Z_3 c_Z_4
  obtain ⟨⟨z_R, c_R_0, c_R_1, c_R_2, c_R_3, c_R_4⟩, _⟩ := (Blk5.mk HB_R.out).all
  obtain ⟨⟨z_F, c_F_0, c_F_1, c_F_2, c_F_3⟩, _⟩ := (Blk4.mk HB_F.out).all
  obtain ⟨⟨z_X, c_X_0, c_X_1, c_X_2, c_X_3, c_X_4⟩, _⟩ := (Blk5.mk HB_X.out).all
  obtain ⟨⟨z_E, c_E_0, c_E_1, c_E_2, c_E_3⟩, _⟩ := (Blk4.mk HB_E.out).all
  obtain ⟨⟨z_Y, c_Y_0, c_Y_1, c_Y_2, c_Y_3, c_Y_4⟩, _⟩ := (Blk5.mk HB_Y.out).all
  obtain ⟨⟨z_Z, c_Z_0, c_Z_1, c_Z_2, c_Z_3, c_Z_4⟩, _⟩ := (Blk5.mk HB_Z.out).all
  go_wp2_with fail
  go_ret
  exact ⟨rfl, HG.out⟩

set_option maxRecDepth 100000 in
set_option maxHeartbeats 4000000 in
theorem bytes_01 (op a b c : Nat) (n : Int) (p q r s : Nat) (w : World) (hE : Env w) (hx : Ins.Bd ⟨op, a, b, c, n⟩) (hf : Four (p, q, r, s)) (hm : mayB ⟨op, a, b, c, n⟩ = false) (hd : mayB (decI p q r s) = true) :
    Calls Tryd.prog 3 #[.agg #[.int .u8 op, .int .u8 a, .int .u8 b, .int .u8 c, .int .i64 n], .agg #[.int .u8 p, .int .u8 q, .int .u8 r, .int .u8 s]] w fun e w' => e = .returned (.bool true) ∧ Chg Non w w' := by
  have HE := Lib.hid hE
  have HX := Lib.hid hx
  have HF := Lib.hid hf
  have HM := Lib.hid hm
  have HD := Lib.hid hd
  have HRM : Hid (∀ w, Calls Tryd.prog 9 #[.agg #[.int .u8 op, .int .u8 a, .int .u8 b, .int .u8 c, .int .i64 n]] w fun e w' => e = .returned (.bool false) ∧ Chg Non w w') := Lib.hid (fun w => by have h := rMay_ok op a b c n w hx; rw [hm] at h; exact h)
  clear hE hx hf hm hd
  obtain ⟨⟨op2, a2, b2, c2, n2⟩, hd2⟩ : ∃ y, decI p q r s = y := ⟨_, rfl⟩
  rw [hd2] at HD
  have HD2 := Lib.hid hd2
  clear hd2
  go_enter Tryd.func3, Tryd.ntmps3
  go_wp2_with fail
  refine (HRM.out _).mono ?_
  rintro e w1 ⟨rfl, hg⟩
  have HB_R := Lib.hid (blockN hg (al_3_0 _ _ _ _))
  have HB_F := Lib.hid (blockN hg (al_3_1 _ _ _ _))
  have HB_X := Lib.hid (blockN hg (al_3_2 _ _ _ _))
  have HG : Hid (Chg Non w w1) := Lib.hid (((((Chg.refl Non w).alloc _).alloc _).alloc _).then_non hg)
  clear hg
  obtain ⟨⟨z_R, c_R_0, c_R_1, c_R_2, c_R_3, c_R_4⟩, _⟩ := (Blk5.mk HB_R.out).all
  obtain ⟨⟨z_F, c_F_0, c_F_1, c_F_2, c_F_3⟩, _⟩ := (Blk4.mk HB_F.out).all
  obtain ⟨⟨z_X, c_X_0, c_X_1, c_X_2, c_X_3, c_X_4⟩, _⟩ := (Blk5.mk HB_X.out).all
  go_wp2_with fail
  refine (Enc_n op a b c n _ HM.out).mono ?_
  rintro e w2 ⟨rfl, hg⟩
  have HB_R := Lib.hid (blockN ((Chg.refl Non _).then_non hg) HB_R.out)
  have HB_F := Lib.hid (blockN ((Chg.refl Non _).then_non hg) HB_F.out)
  have HB_X := Lib.hid (blockN ((Chg.refl Non _).then_non hg) HB_X.out)
  have HG : Hid (Chg Non w w2) := Lib.hid ((HG.out).then_non hg)
  clear hg z_R c_R_0 c_R_1 c_R_2 c_R_3 c_R_4 z_F c_F_0 c_F_1 c_F_2 c_F_3 z_X c_X_0 c_X_1 c_X_2 c_X_3 c_X_4
  obtain ⟨⟨z_R, c_R_0, c_R_1, c_R_2, c_R_3, c_R_4⟩, _⟩ := (Blk5.mk HB_R.out).all
  obtain ⟨⟨z_F, c_F_0, c_F_1, c_F_2, c_F_3⟩, _⟩ := (Blk4.mk HB_F.out).all
  obtain ⟨⟨z_X, c_X_0, c_X_1, c_X_2, c_X_3, c_X_4⟩, _⟩ := (Blk5.mk HB_X.out).all
  go_wp2_with fail
  clear z_R c_R_0 c_R_1 c_R_2 c_R_3 c_R_4 z_F c_F_0 c_F_1 c_F_2 c_F_3 z_X c_X_0 c_X_1 c_X_2 c_X_3 c_X_4
  refine wp_region_held_drew (S := fun v => Chg Non (w2.alloc (.cells #[.int .u8 0, .int .u8 0, .int .u8 0, .int .u8 0] 24)) v) (by kernel_rfl) ((Chg.refl Non _).drew) (fun hHeld => ?_)
  clear hHeld
  refine h_load 0 (some 31) 25 (.tmp 5) (w.heap.size + 1 + 1) 0 #[.int .u8 op, .int .u8 a, .int .u8 b, .int .u8 c, .int .i64 n] _ rfl (by kernel_rfl) (by kernel_rfl) (by kernel_rfl) (by kernel_rfl) (by kernel_rfl) (fun _ _ _ h => h) (by kernel_rfl) (by kernel_rfl) (fun w h => row_range (blockN (((Chg.refl Non _).alloc _).then_non h) HB_X.out)) Tryd.underlying25 rfl info_ins ((Chg.refl _ _).drew) ?_
  simp only [Act.put, List.setIfInBounds_toArray, List.set_cons_zero, List.set_cons_succ]
  refine h_pure 2 (some 33) (.bool false) rfl (by kernel_rfl) (by kernel_rfl) (by kernel_rfl) (by kernel_rfl) (fun _ _ _ h => h) (by kernel_rfl) (fun w e => by go_simp) ((Chg.refl _ _).drew) ?_
  simp only [Act.put, List.setIfInBounds_toArray, List.set_cons_zero, List.set_cons_succ]
  refine h_one 1 (by kernel_rfl) rfl (by kernel_rfl) ?_
  intro K hK
  go_simp
  refine (May_v op a b c n false _ HM.out).mono ?_
  rintro e y1 ⟨rfl, hg1⟩
  have HY1 := Lib.hid (((Chg.refl Non _).drew).then_non hg1)
  clear hg1
  refine hK.out _ _ HY1.out (fun _ => ?_)
  clear hK K
  refine h_pure 3 (some 34) (.bool false) rfl (by kernel_rfl) (by kernel_rfl) (by kernel_rfl) (by kernel_rfl) (fun _ _ _ h => h) (by kernel_rfl) (fun w e => by go_simp) HY1.out ?_
  simp only [Act.put, List.setIfInBounds_toArray, List.set_cons_zero, List.set_cons_succ]
  refine h_pure 4 (some 35) (.bool false) rfl (by kernel_rfl) (by kernel_rfl) (by kernel_rfl) (by kernel_rfl) (fun _ _ _ h => h) (by kernel_rfl) (fun w e => by go_simp) HY1.out ?_
  simp only [Act.put, List.setIfInBounds_toArray, List.set_cons_zero, List.set_cons_succ]
  refine h_pure 5 (some 36) (.bool false) rfl (by kernel_rfl) (by kernel_rfl) (by kernel_rfl) (by kernel_rfl) (fun _ _ _ h => h) (by kernel_rfl) (fun w e => by go_simp) HY1.out ?_
  simp only [Act.put, List.setIfInBounds_toArray, List.set_cons_zero, List.set_cons_succ]
  refine h_pure 6 (some 37) (.bool false) rfl (by kernel_rfl) (by kernel_rfl) (by kernel_rfl) (by kernel_rfl) (fun _ _ _ h => h) (by kernel_rfl) (fun w e => by go_simp) HY1.out ?_
  simp only [Act.put, List.setIfInBounds_toArray, List.set_cons_zero, List.set_cons_succ]
  refine h_skip 7 (some 38) rfl (by kernel_rfl) (by kernel_rfl) (by kernel_rfl) (by kernel_rfl) (fun _ _ _ h => h) (by kernel_rfl) HY1.out ?_
  simp only [Act.put, List.setIfInBounds_toArray, List.set_cons_zero, List.set_cons_succ]
  refine h_skip 8 (some 39) rfl (by kernel_rfl) (by kernel_rfl) (by kernel_rfl) (by kernel_rfl) (fun _ _ _ h => h) (by kernel_rfl) HY1.out ?_
  simp only [Act.put, List.setIfInBounds_toArray, List.set_cons_zero, List.set_cons_succ]
  refine h_skip 9 (some 40) rfl (by kernel_rfl) (by kernel_rfl) (by kernel_rfl) (by kernel_rfl) (fun _ _ _ h => h) (by kernel_rfl) HY1.out ?_
  simp only [Act.put, List.setIfInBounds_toArray, List.set_cons_zero, List.set_cons_succ]
  refine h_skip 10 (some 41) rfl (by kernel_rfl) (by kernel_rfl) (by kernel_rfl) (by kernel_rfl) (fun _ _ _ h => h) (by kernel_rfl) HY1.out ?_
  simp only [Act.put, List.setIfInBounds_toArray, List.set_cons_zero, List.set_cons_succ]
  refine h_skip 11 (some 42) rfl (by kernel_rfl) (by kernel_rfl) (by kernel_rfl) (by kernel_rfl) (fun _ _ _ h => h) (by kernel_rfl) HY1.out ?_
  simp only [Act.put, List.setIfInBounds_toArray, List.set_cons_zero, List.set_cons_succ]
  refine h_skip 12 (some 43) rfl (by kernel_rfl) (by kernel_rfl) (by kernel_rfl) (by kernel_rfl) (fun _ _ _ h => h) (by kernel_rfl) HY1.out ?_
  simp only [Act.put, List.setIfInBounds_toArray, List.set_cons_zero, List.set_cons_succ]
  refine h_skip 13 (some 44) rfl (by kernel_rfl) (by kernel_rfl) (by kernel_rfl) (by kernel_rfl) (fun _ _ _ h => h) (by kernel_rfl) HY1.out ?_
  simp only [Act.put, List.setIfInBounds_toArray, List.set_cons_zero, List.set_cons_succ]
  refine h_skip 14 (some 45) rfl (by kernel_rfl) (by kernel_rfl) (by kernel_rfl) (by kernel_rfl) (fun _ _ _ h => h) (by kernel_rfl) HY1.out ?_
  simp only [Act.put, List.setIfInBounds_toArray, List.set_cons_zero, List.set_cons_succ]
  refine h_pure 15 (some 46) (.bool false) rfl (by kernel_rfl) (by kernel_rfl) (by kernel_rfl) (by kernel_rfl) (fun _ _ _ h => h) (by kernel_rfl) (fun w e => by go_simp) HY1.out ?_
  simp only [Act.put, List.setIfInBounds_toArray, List.set_cons_zero, List.set_cons_succ]
  refine h_pure 16 (some 47) (.bool false) rfl (by kernel_rfl) (by kernel_rfl) (by kernel_rfl) (by kernel_rfl) (fun _ _ _ h => h) (by kernel_rfl) (fun w e => by go_simp) HY1.out ?_
  simp only [Act.put, List.setIfInBounds_toArray, List.set_cons_zero, List.set_cons_succ]
  refine h_pure 17 (some 48) (.bool false) rfl (by kernel_rfl) (by kernel_rfl) (by kernel_rfl) (by kernel_rfl) (fun _ _ _ h => h) (by kernel_rfl) (fun w e => by go_simp) HY1.out ?_
  simp only [Act.put, List.setIfInBounds_toArray, List.set_cons_zero, List.set_cons_succ]
  refine h_pure 18 (some 49) (.bool false) rfl (by kernel_rfl) (by kernel_rfl) (by kernel_rfl) (by kernel_rfl) (fun _ _ _ h => h) (by kernel_rfl) (fun w e => by go_simp) HY1.out ?_
  simp only [Act.put, List.setIfInBounds_toArray, List.set_cons_zero, List.set_cons_succ]
  refine h_pure 19 (some 50) (.bool true) rfl (by kernel_rfl) (by kernel_rfl) (by kernel_rfl) (by kernel_rfl) (fun _ _ _ h => h) (by kernel_rfl) (fun w e => by go_simp) HY1.out ?_
  simp only [Act.put, List.setIfInBounds_toArray, List.set_cons_zero, List.set_cons_succ]
  refine h_pure 20 (some 51) (.bool true) rfl (by kernel_rfl) (by kernel_rfl) (by kernel_rfl) (by kernel_rfl) (fun _ _ _ h => h) (by kernel_rfl) (fun w e => by go_simp) HY1.out ?_
  simp only [Act.put, List.setIfInBounds_toArray, List.set_cons_zero, List.set_cons_succ]
  refine h_load 21 (some 52) 24 (.tmp 7) w2.heap.size 0 #[.int .u8 0, .int .u8 0, .int .u8 0, .int .u8 0] _ rfl (by kernel_rfl) (by kernel_rfl) (by kernel_rfl) (by kernel_rfl) (by kernel_rfl) (fun _ _ _ h => h) (by kernel_rfl) (by kernel_rfl) (fun w h => row_range (blockN h (al_1_0 _ _))) Tryd.underlying24 rfl info_four HY1.out ?_
  simp only [Act.put, List.setIfInBounds_toArray, List.set_cons_zero, List.set_cons_succ]
  refine h_pure 22 (some 53) (.agg #[.int .u8 0, .int .u8 0, .int .u8 0, .int .u8 0]) rfl (by kernel_rfl) (by kernel_rfl) (by kernel_rfl) (by kernel_rfl) (fun _ _ _ h => h) (by kernel_rfl) (fun w e => by kernel_rfl) HY1.out ?_
  simp only [Act.put, List.setIfInBounds_toArray, List.set_cons_zero, List.set_cons_succ]
  refine h_pure 23 (some 54) (.bool false) rfl (by kernel_rfl) (by kernel_rfl) (by kernel_rfl) (by kernel_rfl) (fun _ _ _ h => h) (by kernel_rfl) (fun w e => by kernel_rfl) HY1.out ?_
  simp only [Act.put, List.setIfInBounds_toArray, List.set_cons_zero, List.set_cons_succ]
  refine h_pure 24 (some 55) (.bool false) rfl (by kernel_rfl) (by kernel_rfl) (by kernel_rfl) (by kernel_rfl) (fun _ _ _ h => h) (by kernel_rfl) (fun w e => by go_simp) HY1.out ?_
  simp only [Act.put, List.setIfInBounds_toArray, List.set_cons_zero, List.set_cons_succ]
  refine h_pure 25 (some 56) (.int .i64 190) rfl (by kernel_rfl) (by kernel_rfl) (by kernel_rfl) (by kernel_rfl) (fun _ _ _ h => h) (by kernel_rfl) (fun w e => by go_simp) HY1.out ?_
  simp only [Act.put, List.setIfInBounds_toArray, List.set_cons_zero, List.set_cons_succ]
  refine h_pure 26 (some 57) (.bool false) rfl (by kernel_rfl) (by kernel_rfl) (by kernel_rfl) (by kernel_rfl) (fun _ _ _ h => h) (by kernel_rfl) (fun w e => by go_simp) HY1.out ?_
  simp only [Act.put, List.setIfInBounds_toArray, List.set_cons_zero, List.set_cons_succ]
  refine h_pure 27 (some 58) (.bool false) rfl (by kernel_rfl) (by kernel_rfl) (by kernel_rfl) (by kernel_rfl) (fun _ _ _ h => h) (by kernel_rfl) (fun w e => by go_simp) HY1.out ?_
  simp only [Act.put, List.setIfInBounds_toArray, List.set_cons_zero, List.set_cons_succ]
  refine h_pure 28 (some 59) (.bool false) rfl (by kernel_rfl) (by kernel_rfl) (by kernel_rfl) (by kernel_rfl) (fun _ _ _ h => h) (by kernel_rfl) (fun w e => by go_simp) HY1.out ?_
  simp only [Act.put, List.setIfInBounds_toArray, List.set_cons_zero, List.set_cons_succ]
  refine h_pure 29 (some 60) (.bool false) rfl (by kernel_rfl) (by kernel_rfl) (by kernel_rfl) (by kernel_rfl) (fun _ _ _ h => h) (by kernel_rfl) (fun w e => by go_simp) HY1.out ?_
  simp only [Act.put, List.setIfInBounds_toArray, List.set_cons_zero, List.set_cons_succ]
  refine wpAnyH_done (by kernel_rfl) ?_ _
  have hg := HY1.out
  have HB_R := Lib.hid (blockN (((Chg.refl Non _).alloc _).then_non hg) HB_R.out)
  have HB_F := Lib.hid (blockN (((Chg.refl Non _).alloc _).then_non hg) HB_F.out)
  have HB_X := Lib.hid (blockN (((Chg.refl Non _).alloc _).then_non hg) HB_X.out)
  have HB_E := Lib.hid (blockN hg (al_1_0 _ _))
  have HG : Hid (Chg Non w y1) := Lib.hid (((HG.out).alloc _).then_non hg)
  clear hg
  obtain ⟨⟨z_R, c_R_0, c_R_1, c_R_2, c_R_3, c_R_4⟩, _⟩ := (Blk5.mk HB_R.out).all
  obtain ⟨⟨z_F, c_F_0, c_F_1, c_F_2, c_F_3⟩, _⟩ := (Blk4.mk HB_F.out).all
  obtain ⟨⟨z_X, c_X_0, c_X_1, c_X_2, c_X_3, c_X_4⟩, _⟩ := (Blk5.mk HB_X.out).all
  obtain ⟨⟨z_E, c_E_0, c_E_1, c_E_2, c_E_3⟩, _⟩ := (Blk4.mk HB_E.out).all
  go_wp2_with fail
  refine (Dec_v p q r s op2 a2 b2 c2 n2 _ HF.out HD2.out HD.out).mono ?_
  rintro e w3 ⟨rfl, hg⟩
  have HB_R := Lib.hid (blockN ((Chg.refl Non _).then_non hg) HB_R.out)
  have HB_F := Lib.hid (blockN ((Chg.refl Non _).then_non hg) HB_F.out)
  have HB_X := Lib.hid (blockN ((Chg.refl Non _).then_non hg) HB_X.out)
  have HB_E := Lib.hid (blockN ((Chg.refl Non _).then_non hg) HB_E.out)
  have HG : Hid (Chg Non w w3) := Lib.hid ((HG.out).then_non hg)
  clear hg z_R c_R_0 c_R_1 c_R_2 c_R_3 c_R_4 z_F c_F_0 c_F_1 c_F_2 c_F_3 z_X c_X_0 c_X_1 c_X_2 c_X_3 c_X_4 z_E c_E_0 c_E_1 c_E_2 c_E_3
  obtain ⟨⟨z_R, c_R_0, c_R_1, c_R_2, c_R_3, c_R_4⟩, _⟩ := (Blk5.mk HB_R.out).all
  obtain ⟨⟨z_F, c_F_0, c_F_1, c_F_2, c_F_3⟩, _⟩ := (Blk4.mk HB_F.out).all
  obtain ⟨⟨z_X, c_X_0, c_X_1, c_X_2, c_X_3, c_X_4⟩, _⟩ := (Blk5.mk HB_X.out).all
  obtain ⟨⟨z_E, c_E_0, c_E_1, c_E_2, c_E_3⟩, _⟩ := (Blk4.mk HB_E.out).all
  go_wp2_with fail
  refine (rDec_v p q r s op2 a2 b2 c2 n2 _ HF.out HD2.out HD.out).mono ?_
  rintro e w4 ⟨rfl, hg⟩
  have HB_R := Lib.hid (blockN (((Chg.refl Non _).alloc _).then_non hg) HB_R.out)
  have HB_F := Lib.hid (blockN (((Chg.refl Non _).alloc _).then_non hg) HB_F.out)
  have HB_X := Lib.hid (blockN (((Chg.refl Non _).alloc _).then_non hg) HB_X.out)
  have HB_E := Lib.hid (blockN (((Chg.refl Non _).alloc _).then_non hg) HB_E.out)
  have HB_Y := Lib.hid (blockN hg (al_1_0 _ _))
  have HG : Hid (Chg Non w w4) := Lib.hid (((HG.out).alloc _).then_non hg)
  clear hg z_R c_R_0 c_R_1 c_R_2 c_R_3 c_R_4 z_F c_F_0 c_F_1 c_F_2 c_F_3 z_X c_X_0 c_X_1 c_X_2 c_X_3 c_X_4 z_E c_E_0 c_E_1 c_E_2 c_E_3
  obtain ⟨⟨z_R, c_R_0, c_R_1, c_R_2, c_R_3, c_R_4⟩, _⟩ := (Blk5.mk HB_R.out).all
  obtain ⟨⟨z_F, c_F_0, c_F_1, c_F_2, c_F_3⟩, _⟩ := (Blk4.mk HB_F.out).all
  obtain ⟨⟨z_X, c_X_0, c_X_1, c_X_2, c_X_3, c_X_4⟩, _⟩ := (Blk5.mk HB_X.out).all
  obtain ⟨⟨z_E, c_E_0, c_E_1, c_E_2, c_E_3⟩, _⟩ := (Blk4.mk HB_E.out).all
  obtain ⟨⟨z_Y, c_Y_0, c_Y_1, c_Y_2, c_Y_3, c_Y_4⟩, _⟩ := (Blk5.mk HB_Y.out).all
  go_wp2_with fail
  refine (is_ok op2 a2 b2 c2 n2 _).mono ?_
  rintro e w5 ⟨rfl, hg⟩
  have HB_R := Lib.hid (blockN (((Chg.refl Non _).alloc _).then_non hg) HB_R.out)
  have HB_F := Lib.hid (blockN (((Chg.refl Non _).alloc _).then_non hg) HB_F.out)
  have HB_X := Lib.hid (blockN (((Chg.refl Non _).alloc _).then_non hg) HB_X.out)
  have HB_E := Lib.hid (blockN (((Chg.refl Non _).alloc _).then_non hg) HB_E.out)
  have HB_Y := Lib.hid (blockN (((Chg.refl Non _).alloc _).then_non hg) HB_Y.out)
  have HB_Z := Lib.hid (blockN hg (al_1_0 _ _))
  have HG : Hid (Chg Non w w5) := Lib.hid (((HG.out).alloc _).then_non hg)
  clear hg z_R c_R_0 c_R_1 c_R_2 c_R_3 c_R_4 z_F c_F_0 c_F_1 c_F_2 c_F_3 z_X c_X_0 c_X_1 c_X_2 c_X_3 c_X_4 z_E c_E_0 c_E_1 c_E_2 c_E_3 z_Y c_Y_0 c_Y_1 c_Y_2 c_Y_3 c_Y_4
  obtain ⟨⟨z_R, c_R_0, c_R_1, c_R_2, c_R_3, c_R_4⟩, _⟩ := (Blk5.mk HB_R.out).all
  obtain ⟨⟨z_F, c_F_0, c_F_1, c_F_2, c_F_3⟩, _⟩ := (Blk4.mk HB_F.out).all
  obtain ⟨⟨z_X, c_X_0, c_X_1, c_X_2, c_X_3, c_X_4⟩, _⟩ := (Blk5.mk HB_X.out).all
  obtain ⟨⟨z_E, c_E_0, c_E_1, c_E_2, c_E_3⟩, _⟩ := (Blk4.mk HB_E.out).all
  obtain ⟨⟨z_Y, c_Y_0, c_Y_1, c_Y_2, c_Y_3, c_Y_4⟩, _⟩ := (Blk5.mk HB_Y.out).all
  obtain ⟨⟨z_Z, c_Z_0, c_Z_1, c_Z_2, c_Z_3, c_Z_4⟩, _⟩ := (Blk5.mk HB_Z.out).all
  go_wp2_with fail
  refine (iawake_ok _ (HE.out.non HG.out)).mono ?_
  rintro e w6 ⟨rfl, hg⟩
  have HB_R := Lib.hid (blockN ((Chg.refl Non _).then_non hg) HB_R.out)
  have HB_F := Lib.hid (blockN ((Chg.refl Non _).then_non hg) HB_F.out)
  have HB_X := Lib.hid (blockN ((Chg.refl Non _).then_non hg) HB_X.out)
  have HB_E := Lib.hid (blockN ((Chg.refl Non _).then_non hg) HB_E.out)
  have HB_Y := Lib.hid (blockN ((Chg.refl Non _).then_non hg) HB_Y.out)
  have HB_Z := Lib.hid (blockN ((Chg.refl Non _).then_non hg) HB_Z.out)
  have HG : Hid (Chg Non w w6) := Lib.hid ((HG.out).then_non hg)
  clear hg z_R c_R_0 c_R_1 c_R_2 c_R_3 c_R_4 z_F c_F_0 c_F_1 c_F_2 c_F_3 z_X c_X_0 c_X_1 c_X_2 c_X_3 c_X_4 z_E c_E_0 c_E_1 c_E_2 c_E_3 z_Y c_Y_0 c_Y_1 c_Y_2 c_Y_3 c_Y_4 z_Z c_Z_0 c_Z_1 c_Z_2 c_Z_3 c_Z_4
  obtain ⟨⟨z_R, c_R_0, c_R_1, c_R_2, c_R_3, c_R_4⟩, _⟩ := (Blk5.mk HB_R.out).all
  obtain ⟨⟨z_F, c_F_0, c_F_1, c_F_2, c_F_3⟩, _⟩ := (Blk4.mk HB_F.out).all
  obtain ⟨⟨z_X, c_X_0, c_X_1, c_X_2, c_X_3, c_X_4⟩, _⟩ := (Blk5.mk HB_X.out).all
  obtain ⟨⟨z_E, c_E_0, c_E_1, c_E_2, c_E_3⟩, _⟩ := (Blk4.mk HB_E.out).all
  obtain ⟨⟨z_Y, c_Y_0, c_Y_1, c_Y_2, c_Y_3, c_Y_4⟩, _⟩ := (Blk5.mk HB_Y.out).all
  obtain ⟨⟨z_Z, c_Z_0, c_Z_1, c_Z_2, c_Z_3, c_Z_4⟩, _⟩ := (Blk5.mk HB_Z.out).all
  go_wp2_with fail
  go_ret
  exact ⟨rfl, HG.out⟩

set_option maxRecDepth 100000 in
set_option maxHeartbeats 4000000 in
theorem bytes_00 (op a b c : Nat) (n : Int) (p q r s : Nat) (w : World) (hE : Env w) (hx : Ins.Bd ⟨op, a, b, c, n⟩) (hf : Four (p, q, r, s)) (hm : mayB ⟨op, a, b, c, n⟩ = false) (hd : mayB (decI p q r s) = false) :
    Calls Tryd.prog 3 #[.agg #[.int .u8 op, .int .u8 a, .int .u8 b, .int .u8 c, .int .i64 n], .agg #[.int .u8 p, .int .u8 q, .int .u8 r, .int .u8 s]] w fun e w' => e = .returned (.bool true) ∧ Chg Non w w' := by
  have HE := Lib.hid hE
  have HX := Lib.hid hx
  have HF := Lib.hid hf
  have HM := Lib.hid hm
  have HD := Lib.hid hd
  have HRM : Hid (∀ w, Calls Tryd.prog 9 #[.agg #[.int .u8 op, .int .u8 a, .int .u8 b, .int .u8 c, .int .i64 n]] w fun e w' => e = .returned (.bool false) ∧ Chg Non w w') := Lib.hid (fun w => by have h := rMay_ok op a b c n w hx; rw [hm] at h; exact h)
  clear hE hx hf hm hd
  go_enter Tryd.func3, Tryd.ntmps3
  go_wp2_with fail
  refine (HRM.out _).mono ?_
  rintro e w1 ⟨rfl, hg⟩
  have HB_R := Lib.hid (blockN hg (al_3_0 _ _ _ _))
  have HB_F := Lib.hid (blockN hg (al_3_1 _ _ _ _))
  have HB_X := Lib.hid (blockN hg (al_3_2 _ _ _ _))
  have HG : Hid (Chg Non w w1) := Lib.hid (((((Chg.refl Non w).alloc _).alloc _).alloc _).then_non hg)
  clear hg
  obtain ⟨⟨z_R, c_R_0, c_R_1, c_R_2, c_R_3, c_R_4⟩, _⟩ := (Blk5.mk HB_R.out).all
  obtain ⟨⟨z_F, c_F_0, c_F_1, c_F_2, c_F_3⟩, _⟩ := (Blk4.mk HB_F.out).all
  obtain ⟨⟨z_X, c_X_0, c_X_1, c_X_2, c_X_3, c_X_4⟩, _⟩ := (Blk5.mk HB_X.out).all
  go_wp2_with fail
  refine (Enc_n op a b c n _ HM.out).mono ?_
  rintro e w2 ⟨rfl, hg⟩
  have HB_R := Lib.hid (blockN ((Chg.refl Non _).then_non hg) HB_R.out)
  have HB_F := Lib.hid (blockN ((Chg.refl Non _).then_non hg) HB_F.out)
  have HB_X := Lib.hid (blockN ((Chg.refl Non _).then_non hg) HB_X.out)
  have HG : Hid (Chg Non w w2) := Lib.hid ((HG.out).then_non hg)
  clear hg z_R c_R_0 c_R_1 c_R_2 c_R_3 c_R_4 z_F c_F_0 c_F_1 c_F_2 c_F_3 z_X c_X_0 c_X_1 c_X_2 c_X_3 c_X_4
  obtain ⟨⟨z_R, c_R_0, c_R_1, c_R_2, c_R_3, c_R_4⟩, _⟩ := (Blk5.mk HB_R.out).all
  obtain ⟨⟨z_F, c_F_0, c_F_1, c_F_2, c_F_3⟩, _⟩ := (Blk4.mk HB_F.out).all
  obtain ⟨⟨z_X, c_X_0, c_X_1, c_X_2, c_X_3, c_X_4⟩, _⟩ := (Blk5.mk HB_X.out).all
  go_wp2_with fail
  clear z_R c_R_0 c_R_1 c_R_2 c_R_3 c_R_4 z_F c_F_0 c_F_1 c_F_2 c_F_3 z_X c_X_0 c_X_1 c_X_2 c_X_3 c_X_4
  refine wp_region_held_drew (S := fun v => Chg Non (w2.alloc (.cells #[.int .u8 0, .int .u8 0, .int .u8 0, .int .u8 0] 24)) v) (by kernel_rfl) ((Chg.refl Non _).drew) (fun hHeld => ?_)
  clear hHeld
  refine h_load 0 (some 31) 25 (.tmp 5) (w.heap.size + 1 + 1) 0 #[.int .u8 op, .int .u8 a, .int .u8 b, .int .u8 c, .int .i64 n] _ rfl (by kernel_rfl) (by kernel_rfl) (by kernel_rfl) (by kernel_rfl) (by kernel_rfl) (fun _ _ _ h => h) (by kernel_rfl) (by kernel_rfl) (fun w h => row_range (blockN (((Chg.refl Non _).alloc _).then_non h) HB_X.out)) Tryd.underlying25 rfl info_ins ((Chg.refl _ _).drew) ?_
  simp only [Act.put, List.setIfInBounds_toArray, List.set_cons_zero, List.set_cons_succ]
  refine h_pure 2 (some 33) (.bool false) rfl (by kernel_rfl) (by kernel_rfl) (by kernel_rfl) (by kernel_rfl) (fun _ _ _ h => h) (by kernel_rfl) (fun w e => by go_simp) ((Chg.refl _ _).drew) ?_
  simp only [Act.put, List.setIfInBounds_toArray, List.set_cons_zero, List.set_cons_succ]
  refine h_one 1 (by kernel_rfl) rfl (by kernel_rfl) ?_
  intro K hK
  go_simp
  refine (May_v op a b c n false _ HM.out).mono ?_
  rintro e y1 ⟨rfl, hg1⟩
  have HY1 := Lib.hid (((Chg.refl Non _).drew).then_non hg1)
  clear hg1
  refine hK.out _ _ HY1.out (fun _ => ?_)
  clear hK K
  refine h_pure 3 (some 34) (.bool false) rfl (by kernel_rfl) (by kernel_rfl) (by kernel_rfl) (by kernel_rfl) (fun _ _ _ h => h) (by kernel_rfl) (fun w e => by go_simp) HY1.out ?_
  simp only [Act.put, List.setIfInBounds_toArray, List.set_cons_zero, List.set_cons_succ]
  refine h_pure 4 (some 35) (.bool false) rfl (by kernel_rfl) (by kernel_rfl) (by kernel_rfl) (by kernel_rfl) (fun _ _ _ h => h) (by kernel_rfl) (fun w e => by go_simp) HY1.out ?_
  simp only [Act.put, List.setIfInBounds_toArray, List.set_cons_zero, List.set_cons_succ]
  refine h_pure 5 (some 36) (.bool false) rfl (by kernel_rfl) (by kernel_rfl) (by kernel_rfl) (by kernel_rfl) (fun _ _ _ h => h) (by kernel_rfl) (fun w e => by go_simp) HY1.out ?_
  simp only [Act.put, List.setIfInBounds_toArray, List.set_cons_zero, List.set_cons_succ]
  refine h_pure 6 (some 37) (.bool false) rfl (by kernel_rfl) (by kernel_rfl) (by kernel_rfl) (by kernel_rfl) (fun _ _ _ h => h) (by kernel_rfl) (fun w e => by go_simp) HY1.out ?_
  simp only [Act.put, List.setIfInBounds_toArray, List.set_cons_zero, List.set_cons_succ]
  refine h_skip 7 (some 38) rfl (by kernel_rfl) (by kernel_rfl) (by kernel_rfl) (by kernel_rfl) (fun _ _ _ h => h) (by kernel_rfl) HY1.out ?_
  simp only [Act.put, List.setIfInBounds_toArray, List.set_cons_zero, List.set_cons_succ]
  refine h_skip 8 (some 39) rfl (by kernel_rfl) (by kernel_rfl) (by kernel_rfl) (by kernel_rfl) (fun _ _ _ h => h) (by kernel_rfl) HY1.out ?_
  simp only [Act.put, List.setIfInBounds_toArray, List.set_cons_zero, List.set_cons_succ]
  refine h_skip 9 (some 40) rfl (by kernel_rfl) (by kernel_rfl) (by kernel_rfl) (by kernel_rfl) (fun _ _ _ h => h) (by kernel_rfl) HY1.out ?_
  simp only [Act.put, List.setIfInBounds_toArray, List.set_cons_zero, List.set_cons_succ]
  refine h_skip 10 (some 41) rfl (by kernel_rfl) (by kernel_rfl) (by kernel_rfl) (by kernel_rfl) (fun _ _ _ h => h) (by kernel_rfl) HY1.out ?_
  simp only [Act.put, List.setIfInBounds_toArray, List.set_cons_zero, List.set_cons_succ]
  refine h_skip 11 (some 42) rfl (by kernel_rfl) (by kernel_rfl) (by kernel_rfl) (by kernel_rfl) (fun _ _ _ h => h) (by kernel_rfl) HY1.out ?_
  simp only [Act.put, List.setIfInBounds_toArray, List.set_cons_zero, List.set_cons_succ]
  refine h_skip 12 (some 43) rfl (by kernel_rfl) (by kernel_rfl) (by kernel_rfl) (by kernel_rfl) (fun _ _ _ h => h) (by kernel_rfl) HY1.out ?_
  simp only [Act.put, List.setIfInBounds_toArray, List.set_cons_zero, List.set_cons_succ]
  refine h_skip 13 (some 44) rfl (by kernel_rfl) (by kernel_rfl) (by kernel_rfl) (by kernel_rfl) (fun _ _ _ h => h) (by kernel_rfl) HY1.out ?_
  simp only [Act.put, List.setIfInBounds_toArray, List.set_cons_zero, List.set_cons_succ]
  refine h_skip 14 (some 45) rfl (by kernel_rfl) (by kernel_rfl) (by kernel_rfl) (by kernel_rfl) (fun _ _ _ h => h) (by kernel_rfl) HY1.out ?_
  simp only [Act.put, List.setIfInBounds_toArray, List.set_cons_zero, List.set_cons_succ]
  refine h_pure 15 (some 46) (.bool false) rfl (by kernel_rfl) (by kernel_rfl) (by kernel_rfl) (by kernel_rfl) (fun _ _ _ h => h) (by kernel_rfl) (fun w e => by go_simp) HY1.out ?_
  simp only [Act.put, List.setIfInBounds_toArray, List.set_cons_zero, List.set_cons_succ]
  refine h_pure 16 (some 47) (.bool false) rfl (by kernel_rfl) (by kernel_rfl) (by kernel_rfl) (by kernel_rfl) (fun _ _ _ h => h) (by kernel_rfl) (fun w e => by go_simp) HY1.out ?_
  simp only [Act.put, List.setIfInBounds_toArray, List.set_cons_zero, List.set_cons_succ]
  refine h_pure 17 (some 48) (.bool false) rfl (by kernel_rfl) (by kernel_rfl) (by kernel_rfl) (by kernel_rfl) (fun _ _ _ h => h) (by kernel_rfl) (fun w e => by go_simp) HY1.out ?_
  simp only [Act.put, List.setIfInBounds_toArray, List.set_cons_zero, List.set_cons_succ]
  refine h_pure 18 (some 49) (.bool false) rfl (by kernel_rfl) (by kernel_rfl) (by kernel_rfl) (by kernel_rfl) (fun _ _ _ h => h) (by kernel_rfl) (fun w e => by go_simp) HY1.out ?_
  simp only [Act.put, List.setIfInBounds_toArray, List.set_cons_zero, List.set_cons_succ]
  refine h_pure 19 (some 50) (.bool true) rfl (by kernel_rfl) (by kernel_rfl) (by kernel_rfl) (by kernel_rfl) (fun _ _ _ h => h) (by kernel_rfl) (fun w e => by go_simp) HY1.out ?_
  simp only [Act.put, List.setIfInBounds_toArray, List.set_cons_zero, List.set_cons_succ]
  refine h_pure 20 (some 51) (.bool true) rfl (by kernel_rfl) (by kernel_rfl) (by kernel_rfl) (by kernel_rfl) (fun _ _ _ h => h) (by kernel_rfl) (fun w e => by go_simp) HY1.out ?_
  simp only [Act.put, List.setIfInBounds_toArray, List.set_cons_zero, List.set_cons_succ]
  refine h_load 21 (some 52) 24 (.tmp 7) w2.heap.size 0 #[.int .u8 0, .int .u8 0, .int .u8 0, .int .u8 0] _ rfl (by kernel_rfl) (by kernel_rfl) (by kernel_rfl) (by kernel_rfl) (by kernel_rfl) (fun _ _ _ h => h) (by kernel_rfl) (by kernel_rfl) (fun w h => row_range (blockN h (al_1_0 _ _))) Tryd.underlying24 rfl info_four HY1.out ?_
  simp only [Act.put, List.setIfInBounds_toArray, List.set_cons_zero, List.set_cons_succ]
  refine h_pure 22 (some 53) (.agg #[.int .u8 0, .int .u8 0, .int .u8 0, .int .u8 0]) rfl (by kernel_rfl) (by kernel_rfl) (by kernel_rfl) (by kernel_rfl) (fun _ _ _ h => h) (by kernel_rfl) (fun w e => by kernel_rfl) HY1.out ?_
  simp only [Act.put, List.setIfInBounds_toArray, List.set_cons_zero, List.set_cons_succ]
  refine h_pure 23 (some 54) (.bool false) rfl (by kernel_rfl) (by kernel_rfl) (by kernel_rfl) (by kernel_rfl) (fun _ _ _ h => h) (by kernel_rfl) (fun w e => by kernel_rfl) HY1.out ?_
  simp only [Act.put, List.setIfInBounds_toArray, List.set_cons_zero, List.set_cons_succ]
  refine h_pure 24 (some 55) (.bool false) rfl (by kernel_rfl) (by kernel_rfl) (by kernel_rfl) (by kernel_rfl) (fun _ _ _ h => h) (by kernel_rfl) (fun w e => by go_simp) HY1.out ?_
  simp only [Act.put, List.setIfInBounds_toArray, List.set_cons_zero, List.set_cons_succ]
  refine h_pure 25 (some 56) (.int .i64 190) rfl (by kernel_rfl) (by kernel_rfl) (by kernel_rfl) (by kernel_rfl) (fun _ _ _ h => h) (by kernel_rfl) (fun w e => by go_simp) HY1.out ?_
  simp only [Act.put, List.setIfInBounds_toArray, List.set_cons_zero, List.set_cons_succ]
  refine h_pure 26 (some 57) (.bool false) rfl (by kernel_rfl) (by kernel_rfl) (by kernel_rfl) (by kernel_rfl) (fun _ _ _ h => h) (by kernel_rfl) (fun w e => by go_simp) HY1.out ?_
  simp only [Act.put, List.setIfInBounds_toArray, List.set_cons_zero, List.set_cons_succ]
  refine h_pure 27 (some 58) (.bool false) rfl (by kernel_rfl) (by kernel_rfl) (by kernel_rfl) (by kernel_rfl) (fun _ _ _ h => h) (by kernel_rfl) (fun w e => by go_simp) HY1.out ?_
  simp only [Act.put, List.setIfInBounds_toArray, List.set_cons_zero, List.set_cons_succ]
  refine h_pure 28 (some 59) (.bool false) rfl (by kernel_rfl) (by kernel_rfl) (by kernel_rfl) (by kernel_rfl) (fun _ _ _ h => h) (by kernel_rfl) (fun w e => by go_simp) HY1.out ?_
  simp only [Act.put, List.setIfInBounds_toArray, List.set_cons_zero, List.set_cons_succ]
  refine h_pure 29 (some 60) (.bool false) rfl (by kernel_rfl) (by kernel_rfl) (by kernel_rfl) (by kernel_rfl) (fun _ _ _ h => h) (by kernel_rfl) (fun w e => by go_simp) HY1.out ?_
  simp only [Act.put, List.setIfInBounds_toArray, List.set_cons_zero, List.set_cons_succ]
  refine wpAnyH_done (by kernel_rfl) ?_ _
  have hg := HY1.out
  have HB_R := Lib.hid (blockN (((Chg.refl Non _).alloc _).then_non hg) HB_R.out)
  have HB_F := Lib.hid (blockN (((Chg.refl Non _).alloc _).then_non hg) HB_F.out)
  have HB_X := Lib.hid (blockN (((Chg.refl Non _).alloc _).then_non hg) HB_X.out)
  have HB_E := Lib.hid (blockN hg (al_1_0 _ _))
  have HG : Hid (Chg Non w y1) := Lib.hid (((HG.out).alloc _).then_non hg)
  clear hg
  obtain ⟨⟨z_R, c_R_0, c_R_1, c_R_2, c_R_3, c_R_4⟩, _⟩ := (Blk5.mk HB_R.out).all
  obtain ⟨⟨z_F, c_F_0, c_F_1, c_F_2, c_F_3⟩, _⟩ := (Blk4.mk HB_F.out).all
  obtain ⟨⟨z_X, c_X_0, c_X_1, c_X_2, c_X_3, c_X_4⟩, _⟩ := (Blk5.mk HB_X.out).all
  obtain ⟨⟨z_E, c_E_0, c_E_1, c_E_2, c_E_3⟩, _⟩ := (Blk4.mk HB_E.out).all
  go_wp2_with fail
  refine (Dec_n p q r s _ HF.out HD.out).mono ?_
  rintro e w3 ⟨rfl, hg⟩
  have HB_R := Lib.hid (blockN ((Chg.refl Non _).then_non hg) HB_R.out)
  have HB_F := Lib.hid (blockN ((Chg.refl Non _).then_non hg) HB_F.out)
  have HB_X := Lib.hid (blockN ((Chg.refl Non _).then_non hg) HB_X.out)
  have HB_E := Lib.hid (blockN ((Chg.refl Non _).then_non hg) HB_E.out)
  have HG : Hid (Chg Non w w3) := Lib.hid ((HG.out).then_non hg)
  clear hg z_R c_R_0 c_R_1 c_R_2 c_R_3 c_R_4 z_F c_F_0 c_F_1 c_F_2 c_F_3 z_X c_X_0 c_X_1 c_X_2 c_X_3 c_X_4 z_E c_E_0 c_E_1 c_E_2 c_E_3
  obtain ⟨⟨z_R, c_R_0, c_R_1, c_R_2, c_R_3, c_R_4⟩, _⟩ := (Blk5.mk HB_R.out).all
  obtain ⟨⟨z_F, c_F_0, c_F_1, c_F_2, c_F_3⟩, _⟩ := (Blk4.mk HB_F.out).all
  obtain ⟨⟨z_X, c_X_0, c_X_1, c_X_2, c_X_3, c_X_4⟩, _⟩ := (Blk5.mk HB_X.out).all
  obtain ⟨⟨z_E, c_E_0, c_E_1, c_E_2, c_E_3⟩, _⟩ := (Blk4.mk HB_E.out).all
  go_wp2_with fail
  refine (rDec_n p q r s _ HF.out HD.out).mono ?_
  rintro e w4 ⟨rfl, hg⟩
  have HB_R := Lib.hid (blockN (((Chg.refl Non _).alloc _).then_non hg) HB_R.out)
  have HB_F := Lib.hid (blockN (((Chg.refl Non _).alloc _).then_non hg) HB_F.out)
  have HB_X := Lib.hid (blockN (((Chg.refl Non _).alloc _).then_non hg) HB_X.out)
  have HB_E := Lib.hid (blockN (((Chg.refl Non _).alloc _).then_non hg) HB_E.out)
  have HB_Y := Lib.hid (blockN hg (al_1_0 _ _))
  have HG : Hid (Chg Non w w4) := Lib.hid (((HG.out).alloc _).then_non hg)
  clear hg z_R c_R_0 c_R_1 c_R_2 c_R_3 c_R_4 z_F c_F_0 c_F_1 c_F_2 c_F_3 z_X c_X_0 c_X_1 c_X_2 c_X_3 c_X_4 z_E c_E_0 c_E_1 c_E_2 c_E_3
  obtain ⟨⟨z_R, c_R_0, c_R_1, c_R_2, c_R_3, c_R_4⟩, _⟩ := (Blk5.mk HB_R.out).all
  obtain ⟨⟨z_F, c_F_0, c_F_1, c_F_2, c_F_3⟩, _⟩ := (Blk4.mk HB_F.out).all
  obtain ⟨⟨z_X, c_X_0, c_X_1, c_X_2, c_X_3, c_X_4⟩, _⟩ := (Blk5.mk HB_X.out).all
  obtain ⟨⟨z_E, c_E_0, c_E_1, c_E_2, c_E_3⟩, _⟩ := (Blk4.mk HB_E.out).all
  obtain ⟨⟨z_Y, c_Y_0, c_Y_1, c_Y_2, c_Y_3, c_Y_4⟩, _⟩ := (Blk5.mk HB_Y.out).all
  go_wp2_with fail
  refine (is_ok 0 0 0 0 0 _).mono ?_
  rintro e w5 ⟨rfl, hg⟩
  have HB_R := Lib.hid (blockN (((Chg.refl Non _).alloc _).then_non hg) HB_R.out)
  have HB_F := Lib.hid (blockN (((Chg.refl Non _).alloc _).then_non hg) HB_F.out)
  have HB_X := Lib.hid (blockN (((Chg.refl Non _).alloc _).then_non hg) HB_X.out)
  have HB_E := Lib.hid (blockN (((Chg.refl Non _).alloc _).then_non hg) HB_E.out)
  have HB_Y := Lib.hid (blockN (((Chg.refl Non _).alloc _).then_non hg) HB_Y.out)
  have HB_Z := Lib.hid (blockN hg (al_1_0 _ _))
  have HG : Hid (Chg Non w w5) := Lib.hid (((HG.out).alloc _).then_non hg)
  clear hg z_R c_R_0 c_R_1 c_R_2 c_R_3 c_R_4 z_F c_F_0 c_F_1 c_F_2 c_F_3 z_X c_X_0 c_X_1 c_X_2 c_X_3 c_X_4 z_E c_E_0 c_E_1 c_E_2 c_E_3 z_Y c_Y_0 c_Y_1 c_Y_2 c_Y_3 c_Y_4
  obtain ⟨⟨z_R, c_R_0, c_R_1, c_R_2, c_R_3, c_R_4⟩, _⟩ := (Blk5.mk HB_R.out).all
  obtain ⟨⟨z_F, c_F_0, c_F_1, c_F_2, c_F_3⟩, _⟩ := (Blk4.mk HB_F.out).all
  obtain ⟨⟨z_X, c_X_0, c_X_1, c_X_2, c_X_3, c_X_4⟩, _⟩ := (Blk5.mk HB_X.out).all
  obtain ⟨⟨z_E, c_E_0, c_E_1, c_E_2, c_E_3⟩, _⟩ := (Blk4.mk HB_E.out).all
  obtain ⟨⟨z_Y, c_Y_0, c_Y_1, c_Y_2, c_Y_3, c_Y_4⟩, _⟩ := (Blk5.mk HB_Y.out).all
  obtain ⟨⟨z_Z, c_Z_0, c_Z_1, c_Z_2, c_Z_3, c_Z_4⟩, _⟩ := (Blk5.mk HB_Z.out).all
  go_wp2_with fail
  refine (iawake_ok _ (HE.out.non HG.out)).mono ?_
  rintro e w6 ⟨rfl, hg⟩
  have HB_R := Lib.hid (blockN ((Chg.refl Non _).then_non hg) HB_R.out)
  have HB_F := Lib.hid (blockN ((Chg.refl Non _).then_non hg) HB_F.out)
  have HB_X := Lib.hid (blockN ((Chg.refl Non _).then_non hg) HB_X.out)
  have HB_E := Lib.hid (blockN ((Chg.refl Non _).then_non hg) HB_E.out)
  have HB_Y := Lib.hid (blockN ((Chg.refl Non _).then_non hg) HB_Y.out)
  have HB_Z := Lib.hid (blockN ((Chg.refl Non _).then_non hg) HB_Z.out)
  have HG : Hid (Chg Non w w6) := Lib.hid ((HG.out).then_non hg)
  clear hg z_R c_R_0 c_R_1 c_R_2 c_R_3 c_R_4 z_F c_F_0 c_F_1 c_F_2 c_F_3 z_X c_X_0 c_X_1 c_X_2 c_X_3 c_X_4 z_E c_E_0 c_E_1 c_E_2 c_E_3 z_Y c_Y_0 c_Y_1 c_Y_2 c_Y_3 c_Y_4 z_Z c_Z_0 c_Z_1 c_Z_2 c_Z_3 c_Z_4
  obtain ⟨⟨z_R, c_R_0, c_R_1, c_R_2, c_R_3, c_R_4⟩, _⟩ := (Blk5.mk HB_R.out).all
  obtain ⟨⟨z_F, c_F_0, c_F_1, c_F_2, c_F_3⟩, _⟩ := (Blk4.mk HB_F.out).all
  obtain ⟨⟨z_X, c_X_0, c_X_1, c_X_2, c_X_3, c_X_4⟩, _⟩ := (Blk5.mk HB_X.out).all
  obtain ⟨⟨z_E, c_E_0, c_E_1, c_E_2, c_E_3⟩, _⟩ := (Blk4.mk HB_E.out).all
  obtain ⟨⟨z_Y, c_Y_0, c_Y_1, c_Y_2, c_Y_3, c_Y_4⟩, _⟩ := (Blk5.mk HB_Y.out).all
  obtain ⟨⟨z_Z, c_Z_0, c_Z_1, c_Z_2, c_Z_3, c_Z_4⟩, _⟩ := (Blk5.mk HB_Z.out).all
  go_wp2_with fail
  go_ret
  exact ⟨rfl, HG.out⟩

theorem IsaBytes_ok (op a b c : Nat) (n : Int) (p q r s : Nat) (w : World) (hE : Env w) (hx : Ins.Bd ⟨op, a, b, c, n⟩) (hf : Four (p, q, r, s)) :
    Calls Tryd.prog 3 #[.agg #[.int .u8 op, .int .u8 a, .int .u8 b, .int .u8 c, .int .i64 n], .agg #[.int .u8 p, .int .u8 q, .int .u8 r, .int .u8 s]] w fun e w' => e = .returned (.bool true) ∧ Chg Non w w' := by
  cases h1 : mayB ⟨op, a, b, c, n⟩ <;> cases h2 : mayB (decI p q r s)
  · exact bytes_00 op a b c n p q r s w hE hx hf h1 h2
  · exact bytes_01 op a b c n p q r s w hE hx hf h1 h2
  · exact bytes_10 op a b c n p q r s w hE hx hf h1 h2
  · exact bytes_11 op a b c n p q r s w hE hx hf h1 h2
end Go.Proofs.YtpcmnphohneddaaDoor
