/- Walk of citadellaw19.IsaTexts. (Written by wip/gen_isatexts.py.) -/
import Derived.Test.YtpcmnphohneddaaDoorRiI
import Derived.Deep.RegionHeld3
namespace Go.Proofs.YtpcmnphohneddaaDoor
open Go.RowKit
set_option linter.unusedVariables false

def pzI (s : List UInt8) : Ins := match parseC s with | some x => x | none => Ins.zero
def pzE (s : List UInt8) : Int := match parseC s with | some _ => 0 | none => 190
theorem Parse_g (s : List UInt8) (w : World) (hE : Env w) (hl : s.length < 1000000) :
    Calls Tryd.prog 20 #[.string ⟨s.toArray⟩] w fun e w' => e = .returned (.tuple #[.agg (insC (pzI s)), .int .i64 (pzE s)]) ∧ Chg Non w w' :=
  (Parse_c s w hE hl).mono fun e w' ⟨he, hg⟩ => ⟨by rw [he]; unfold pzI pzE; cases parseC s <;> rfl, hg⟩
theorem rParse_g (s : List UInt8) (w : World) (hl : s.length < 1000000) :
    Calls Tryd.prog 21 #[.string ⟨s.toArray⟩] w fun e w' => e = .returned (.tuple #[.agg (insC (pzI s)), .int .i64 (pzE s)]) ∧ Chg Non w w' :=
  (rParse_ok s w hl).mono fun e w' ⟨he, hg⟩ => ⟨by rw [he, docParse_eq]; unfold pzI pzE; cases parseC s <;> rfl, hg⟩
theorem name_no (k : Nat) (h : kdAt k = .no) : (opAt k).name = [] := by
  rcases Nat.lt_or_ge k 22 with hk | hk
  · have H : ∀ k, k < 22 → kdAt k = .no → (opAt k).name = [] := by decide +kernel
    exact H k hk h
  · unfold opAt
    rw [List.getD_eq_getElem?_getD, List.getElem?_eq_none (by exact hk)]
    rfl
theorem kd_yes (k : Nat) (h : kdAt k ≠ .no) : 1 ≤ k ∧ k ≤ 21 := by
  have := (kd_form k).2.2 h
  unfold okB at this
  simpa using this
theorem kdL_ne (k : Kd) (h : k ≠ .no) : (kdL k == []) = false := by cases k <;> first | rfl | exact absurd rfl h
set_option maxRecDepth 100000 in
set_option maxHeartbeats 4000000 in
theorem texts_11 (op a b c : Nat) (n : Int) (l : List UInt8) (w : World) (hE : Env w) (hx : Ins.Bd ⟨op, a, b, c, n⟩) (hl : l.length ≤ 100) (hk : kdAt op = .no) :
    Calls Tryd.prog 4 #[.agg #[.int .u8 op, .int .u8 a, .int .u8 b, .int .u8 c, .int .i64 n], .string ⟨l.toArray⟩, .bool true] w fun e w' => e = .returned (.bool true) ∧ Chg Non w w' := by
  have HE := Lib.hid hE
  have hb100 : decide ((l.length : Int) > 100) = false := by simp; omega
  obtain ⟨T, hT⟩ : ∃ T, textL ⟨op, a, b, c, n⟩ = T := ⟨_, rfl⟩
  have HTT := Lib.hid hT
  have hTl : T.length < 1000000 := by rw [← hT]; exact textL_len _
  have HRT : Hid (∀ W, Calls Tryd.prog 17 #[.agg #[.int .u8 op, .int .u8 a, .int .u8 b, .int .u8 c, .int .i64 n]] W fun e w' => e = .returned (.string ⟨T.toArray⟩) ∧ Chg Non W w') := Lib.hid (fun W => by have h := rText_ok op a b c n W hx; rw [hT] at h; exact h)
  obtain ⟨N, hN⟩ : ∃ N, (opAt op).name = N := ⟨_, rfl⟩
  have HNm : Hid (∀ W, Calls Tryd.prog 23 #[.int .u8 op] W fun e w' => e = .returned (.string ⟨N.toArray⟩) ∧ Chg Non W w') := Lib.hid (fun W => by have h := Name_ok op W; rw [hN] at h; exact h)
  obtain ⟨ez, hez⟩ : ∃ ez, pzE T = ez := ⟨_, rfl⟩
  obtain ⟨⟨zo, za, zb, zc, zn⟩, hz⟩ : ∃ z, pzI T = z := ⟨_, rfl⟩
  have HP : Hid (∀ W, Env W → Calls Tryd.prog 20 #[.string ⟨T.toArray⟩] W fun e w' => e = .returned (.tuple #[.agg #[.int .u8 zo, .int .u8 za, .int .u8 zb, .int .u8 zc, .int .i64 zn], .int .i64 ez]) ∧ Chg Non W w') := Lib.hid (fun W h => by have h := Parse_g T W h (by omega); rw [hez, hz] at h; exact h)
  have HRP : Hid (∀ W, Calls Tryd.prog 21 #[.string ⟨T.toArray⟩] W fun e w' => e = .returned (.tuple #[.agg #[.int .u8 zo, .int .u8 za, .int .u8 zb, .int .u8 zc, .int .i64 zn], .int .i64 ez]) ∧ Chg Non W w') := Lib.hid (fun W => by have h := rParse_g T W (by omega); rw [hez, hz] at h; exact h)
  have hN0 : N = [] := by rw [← hN]; exact name_no op hk
  have HF : Hid (∀ W, Calls Tryd.prog 18 #[.int .u8 op] W fun e w' => e = .returned (.string ⟨#[]⟩) ∧ Chg Non W w') := Lib.hid (fun W => by have h := Form_ok op W; rw [hk] at h; exact h.mono fun e w' ⟨h1, h2⟩ => ⟨h1, h2 ▸ Chg.refl _ _⟩)
  subst hN0
  clear hE hx hT hN hk hez hz
  go_enter Tryd.func4, Tryd.ntmps4
  go_wp2_with fail
  refine (HRT.out _).mono ?_
  rintro e w1 ⟨rfl, hg⟩
  have HB_X := Lib.hid (blockN hg (al_2_0 _ _ _))
  have HB_Y := Lib.hid (blockN hg (al_2_1 _ _ _))
  have HG : Hid (Chg Non w w1) := Lib.hid ((((Chg.refl Non w).alloc _).alloc _).then_non hg)
  clear hg
  obtain ⟨⟨z_X, c_X_0, c_X_1, c_X_2, c_X_3, c_X_4⟩, _⟩ := (Blk5.mk HB_X.out).all
  obtain ⟨⟨z_Y, c_Y_0, c_Y_1, c_Y_2, c_Y_3, c_Y_4⟩, _⟩ := (Blk5.mk HB_Y.out).all
  go_wp2_with fail
  refine (HF.out _).mono ?_
  rintro e w2 ⟨rfl, hg⟩
  have HB_X := Lib.hid (blockN ((Chg.refl Non _).then_non hg) HB_X.out)
  have HB_Y := Lib.hid (blockN ((Chg.refl Non _).then_non hg) HB_Y.out)
  have HG : Hid (Chg Non w w2) := Lib.hid ((HG.out).then_non hg)
  clear hg z_X c_X_0 c_X_1 c_X_2 c_X_3 c_X_4 z_Y c_Y_0 c_Y_1 c_Y_2 c_Y_3 c_Y_4
  obtain ⟨⟨z_X, c_X_0, c_X_1, c_X_2, c_X_3, c_X_4⟩, _⟩ := (Blk5.mk HB_X.out).all
  obtain ⟨⟨z_Y, c_Y_0, c_Y_1, c_Y_2, c_Y_3, c_Y_4⟩, _⟩ := (Blk5.mk HB_Y.out).all
  go_wp2_with fail
  refine (HP.out _ (HE.out.non HG.out)).mono ?_
  rintro e w3 ⟨rfl, hg⟩
  have HB_X := Lib.hid (blockN ((Chg.refl Non _).then_non hg) HB_X.out)
  have HB_Y := Lib.hid (blockN ((Chg.refl Non _).then_non hg) HB_Y.out)
  have HG : Hid (Chg Non w w3) := Lib.hid ((HG.out).then_non hg)
  clear hg z_X c_X_0 c_X_1 c_X_2 c_X_3 c_X_4 z_Y c_Y_0 c_Y_1 c_Y_2 c_Y_3 c_Y_4
  obtain ⟨⟨z_X, c_X_0, c_X_1, c_X_2, c_X_3, c_X_4⟩, _⟩ := (Blk5.mk HB_X.out).all
  obtain ⟨⟨z_Y, c_Y_0, c_Y_1, c_Y_2, c_Y_3, c_Y_4⟩, _⟩ := (Blk5.mk HB_Y.out).all
  go_wp2_with fail
  refine (HRP.out _).mono ?_
  rintro e w4 ⟨rfl, hg⟩
  have HB_X := Lib.hid (blockN (((Chg.refl Non _).alloc _).then_non hg) HB_X.out)
  have HB_Y := Lib.hid (blockN (((Chg.refl Non _).alloc _).then_non hg) HB_Y.out)
  have HB_Z := Lib.hid (blockN hg (al_1_0 _ _))
  have HG : Hid (Chg Non w w4) := Lib.hid (((HG.out).alloc _).then_non hg)
  clear hg z_X c_X_0 c_X_1 c_X_2 c_X_3 c_X_4 z_Y c_Y_0 c_Y_1 c_Y_2 c_Y_3 c_Y_4
  obtain ⟨⟨z_X, c_X_0, c_X_1, c_X_2, c_X_3, c_X_4⟩, _⟩ := (Blk5.mk HB_X.out).all
  obtain ⟨⟨z_Y, c_Y_0, c_Y_1, c_Y_2, c_Y_3, c_Y_4⟩, _⟩ := (Blk5.mk HB_Y.out).all
  obtain ⟨⟨z_Z, c_Z_0, c_Z_1, c_Z_2, c_Z_3, c_Z_4⟩, _⟩ := (Blk5.mk HB_Z.out).all
  go_wp2_with fail
  clear z_X c_X_0 c_X_1 c_X_2 c_X_3 c_X_4 z_Y c_Y_0 c_Y_1 c_Y_2 c_Y_3 c_Y_4 z_Z c_Z_0 c_Z_1 c_Z_2 c_Z_3 c_Z_4
  refine wp_region_held_drew (S := fun v => Chg Non (w4.alloc (.cells #[.int .u8 zo, .int .u8 za, .int .u8 zb, .int .u8 zc, .int .i64 zn] 23)) v) (by kernel_rfl) ((Chg.refl Non _).drew) (fun hHeld => ?_)
  clear hHeld
  refine h_load 0 (some 49) 25 (.tmp 7) (w.heap.size + 1) 0 #[.int .u8 op, .int .u8 a, .int .u8 b, .int .u8 c, .int .i64 n] _ rfl (by kernel_rfl) (by kernel_rfl) (by kernel_rfl) (by kernel_rfl) (by kernel_rfl) (fun _ _ _ h => h) (by kernel_rfl) (by kernel_rfl) (fun w h => row_range (blockN (((Chg.refl Non _).alloc _).then_non h) HB_Y.out)) Tryd.underlying25 rfl info_ins ((Chg.refl _ _).drew) ?_
  simp only [Act.put, List.setIfInBounds_toArray, List.set_cons_zero, List.set_cons_succ]
  refine h_load 2 (some 51) 23 (.tmp 3) w.heap.size 0 #[.int .u8 op, .int .u8 a, .int .u8 b, .int .u8 c, .int .i64 n] _ rfl (by kernel_rfl) (by kernel_rfl) (by kernel_rfl) (by kernel_rfl) (by kernel_rfl) (fun _ _ _ h => h) (by kernel_rfl) (by kernel_rfl) (fun w h => row_range (blockN (((Chg.refl Non _).alloc _).then_non h) HB_X.out)) Tryd.underlying23 rfl info_rins ((Chg.refl _ _).drew) ?_
  simp only [Act.put, List.setIfInBounds_toArray, List.set_cons_zero, List.set_cons_succ]
  refine h_one 1 (by kernel_rfl) rfl (by kernel_rfl) ?_
  intro K hK
  go_simp
  refine (Text_v op a b c n T _ (HE.out.non ((HG.out.alloc _).drew)) HTT.out).mono ?_
  rintro e y1 ⟨rfl, hg1⟩
  have HY1 := Lib.hid (((Chg.refl Non _).drew).then_non hg1)
  clear hg1
  refine hK.out _ _ HY1.out (fun _ => ?_)
  clear hK K
  refine h_one 3 (by kernel_rfl) rfl (by kernel_rfl) ?_
  intro K hK
  go_simp
  refine (HRT.out _).mono ?_
  rintro e y2 ⟨rfl, hg2⟩
  have HY2 := Lib.hid (HY1.out.then_non hg2)
  clear hg2
  refine hK.out _ _ HY2.out (fun _ => ?_)
  clear hK K
  refine h_pure 4 (some 53) (.bool true) rfl (by kernel_rfl) (by kernel_rfl) (by kernel_rfl) (by kernel_rfl) (fun _ _ _ h => h) (by kernel_rfl) (fun w e => by go_simp) HY2.out ?_
  simp only [Act.put, List.setIfInBounds_toArray, List.set_cons_zero, List.set_cons_succ]
  refine h_pure 5 (some 54) (.bool true) rfl (by kernel_rfl) (by kernel_rfl) (by kernel_rfl) (by kernel_rfl) (fun _ _ _ h => h) (by kernel_rfl) (fun w e => by go_simp) HY2.out ?_
  simp only [Act.put, List.setIfInBounds_toArray, List.set_cons_zero, List.set_cons_succ]
  refine h_pure 6 (some 55) (.pointer (some ⟨w.heap.size, 0, none⟩)) rfl (by kernel_rfl) (by kernel_rfl) (by kernel_rfl) (by kernel_rfl) (fun _ _ _ h => h) (by kernel_rfl) (fun w e => by go_simp) HY2.out ?_
  simp only [Act.put, List.setIfInBounds_toArray, List.set_cons_zero, List.set_cons_succ]
  refine h_pure 9 (some 58) (.string ⟨#[]⟩) rfl (by kernel_rfl) (by kernel_rfl) (by kernel_rfl) (by kernel_rfl) (fun _ _ _ h => h) (by kernel_rfl) (fun w e => by go_simp) HY2.out ?_
  simp only [Act.put, List.setIfInBounds_toArray, List.set_cons_zero, List.set_cons_succ]
  refine h_pure 7 (some 56) (.int .u8 op) rfl (by kernel_rfl) (by kernel_rfl) (by kernel_rfl) (by kernel_rfl) (fun _ _ _ h => h) (by kernel_rfl) (fun w e => by obtain ⟨⟨_, hc0, _⟩, _⟩ := (Blk5.mk (blockN (((Chg.refl Non _).alloc _).then_non e) HB_X.out)).all; go_simp) HY2.out ?_
  simp only [Act.put, List.setIfInBounds_toArray, List.set_cons_zero, List.set_cons_succ]
  refine h_one 8 (by kernel_rfl) rfl (by kernel_rfl) ?_
  intro K hK
  go_simp
  refine (HNm.out _).mono ?_
  rintro e y3 ⟨rfl, hg3⟩
  have HY3 := Lib.hid (HY2.out.then_non hg3)
  clear hg3
  refine hK.out _ _ HY3.out (fun _ => ?_)
  clear hK K
  refine h_pure 10 (some 59) (.bool true) rfl (by kernel_rfl) (by kernel_rfl) (by kernel_rfl) (by kernel_rfl) (fun _ _ _ h => h) (by kernel_rfl) (fun w e => by go_simp) HY3.out ?_
  simp only [Act.put, List.setIfInBounds_toArray, List.set_cons_zero, List.set_cons_succ]
  refine h_pure 11 (some 60) (.bool true) rfl (by kernel_rfl) (by kernel_rfl) (by kernel_rfl) (by kernel_rfl) (fun _ _ _ h => h) (by kernel_rfl) (fun w e => by go_simp) HY3.out ?_
  simp only [Act.put, List.setIfInBounds_toArray, List.set_cons_zero, List.set_cons_succ]
  refine h_pure 12 (some 61) (.bool true) rfl (by kernel_rfl) (by kernel_rfl) (by kernel_rfl) (by kernel_rfl) (fun _ _ _ h => h) (by kernel_rfl) (fun w e => by go_simp) HY3.out ?_
  simp only [Act.put, List.setIfInBounds_toArray, List.set_cons_zero, List.set_cons_succ]
  refine h_pure 13 (some 62) (.int .i64 ez) rfl (by kernel_rfl) (by kernel_rfl) (by kernel_rfl) (by kernel_rfl) (fun _ _ _ h => h) (by kernel_rfl) (fun w e => by go_simp) HY3.out ?_
  simp only [Act.put, List.setIfInBounds_toArray, List.set_cons_zero, List.set_cons_succ]
  refine h_pure 14 (some 63) (.int .i64 ez) rfl (by kernel_rfl) (by kernel_rfl) (by kernel_rfl) (by kernel_rfl) (fun _ _ _ h => h) (by kernel_rfl) (fun w e => by go_simp) HY3.out ?_
  simp only [Act.put, List.setIfInBounds_toArray, List.set_cons_zero, List.set_cons_succ]
  refine h_pure 15 (some 64) (.bool true) rfl (by kernel_rfl) (by kernel_rfl) (by kernel_rfl) (by kernel_rfl) (fun _ _ _ h => h) (by kernel_rfl) (fun w e => by go_simp) HY3.out ?_
  simp only [Act.put, List.setIfInBounds_toArray, List.set_cons_zero, List.set_cons_succ]
  refine h_pure 16 (some 65) (.bool true) rfl (by kernel_rfl) (by kernel_rfl) (by kernel_rfl) (by kernel_rfl) (fun _ _ _ h => h) (by kernel_rfl) (fun w e => by go_simp) HY3.out ?_
  simp only [Act.put, List.setIfInBounds_toArray, List.set_cons_zero, List.set_cons_succ]
  refine h_pure 17 (some 66) (.bool true) rfl (by kernel_rfl) (by kernel_rfl) (by kernel_rfl) (by kernel_rfl) (fun _ _ _ h => h) (by kernel_rfl) (fun w e => by go_simp) HY3.out ?_
  simp only [Act.put, List.setIfInBounds_toArray, List.set_cons_zero, List.set_cons_succ]
  refine h_load 18 (some 67) 25 (.tmp 9) w3.heap.size 0 #[.int .u8 zo, .int .u8 za, .int .u8 zb, .int .u8 zc, .int .i64 zn] _ rfl (by kernel_rfl) (by kernel_rfl) (by kernel_rfl) (by kernel_rfl) (by kernel_rfl) (fun _ _ _ h => h) (by kernel_rfl) (by kernel_rfl) (fun w h => row_range (blockN (((Chg.refl Non _).alloc _).then_non h) HB_Z.out)) Tryd.underlying25 rfl info_ins HY3.out ?_
  simp only [Act.put, List.setIfInBounds_toArray, List.set_cons_zero, List.set_cons_succ]
  refine h_load 19 (some 68) 23 (.tmp 11) w4.heap.size 0 #[.int .u8 zo, .int .u8 za, .int .u8 zb, .int .u8 zc, .int .i64 zn] _ rfl (by kernel_rfl) (by kernel_rfl) (by kernel_rfl) (by kernel_rfl) (by kernel_rfl) (fun _ _ _ h => h) (by kernel_rfl) (by kernel_rfl) (fun w h => row_range (blockN h (al_1_0 _ _))) Tryd.underlying23 rfl info_rins HY3.out ?_
  simp only [Act.put, List.setIfInBounds_toArray, List.set_cons_zero, List.set_cons_succ]
  refine h_one 20 (by kernel_rfl) rfl (by kernel_rfl) ?_
  intro K hK
  go_simp
  refine (is_ok zo za zb zc zn _).mono ?_
  rintro e y4 ⟨rfl, hg4⟩
  have HY4 := Lib.hid (HY3.out.then_non hg4)
  clear hg4
  refine hK.out _ _ HY4.out (fun _ => ?_)
  clear hK K
  refine h_pure 21 (some 70) (.bool true) rfl (by kernel_rfl) (by kernel_rfl) (by kernel_rfl) (by kernel_rfl) (fun _ _ _ h => h) (by kernel_rfl) (fun w e => by go_simp) HY4.out ?_
  simp only [Act.put, List.setIfInBounds_toArray, List.set_cons_zero, List.set_cons_succ]
  refine h_pure 22 (some 71) (.bool true) rfl (by kernel_rfl) (by kernel_rfl) (by kernel_rfl) (by kernel_rfl) (fun _ _ _ h => h) (by kernel_rfl) (fun w e => by go_simp) HY4.out ?_
  simp only [Act.put, List.setIfInBounds_toArray, List.set_cons_zero, List.set_cons_succ]
  refine h_one 23 (by kernel_rfl) rfl (by kernel_rfl) ?_
  intro K hK
  go_simp
  refine (iawake_ok _ (HE.out.non ((HG.out.alloc _).then_non HY4.out))).mono ?_
  rintro e y5 ⟨rfl, hg5⟩
  have HY5 := Lib.hid (HY4.out.then_non hg5)
  clear hg5
  refine hK.out _ _ HY5.out (fun _ => ?_)
  clear hK K
  refine h_pure 24 (some 73) (.bool true) rfl (by kernel_rfl) (by kernel_rfl) (by kernel_rfl) (by kernel_rfl) (fun _ _ _ h => h) (by kernel_rfl) (fun w e => by go_simp) HY5.out ?_
  simp only [Act.put, List.setIfInBounds_toArray, List.set_cons_zero, List.set_cons_succ]
  refine h_pure 25 (some 6) (.bool true) rfl (by kernel_rfl) (by kernel_rfl) (by kernel_rfl) (by kernel_rfl) (fun _ _ _ h => h) (by kernel_rfl) (fun w e => by go_simp) HY5.out ?_
  simp only [Act.put, List.setIfInBounds_toArray, List.set_cons_zero, List.set_cons_succ]
  refine wpAnyH_done (by kernel_rfl) ?_ _
  go_wp2_with fail
  go_ret
  exact ⟨rfl, (HG.out.alloc _).then_non HY5.out⟩
set_option maxRecDepth 100000 in
set_option maxHeartbeats 4000000 in
theorem texts_10 (op a b c : Nat) (n : Int) (l : List UInt8) (w : World) (hE : Env w) (hx : Ins.Bd ⟨op, a, b, c, n⟩) (hl : l.length ≤ 100) (hk : kdAt op ≠ .no) :
    Calls Tryd.prog 4 #[.agg #[.int .u8 op, .int .u8 a, .int .u8 b, .int .u8 c, .int .i64 n], .string ⟨l.toArray⟩, .bool true] w fun e w' => e = .returned (.bool true) ∧ Chg Non w w' := by
  have HE := Lib.hid hE
  have hb100 : decide ((l.length : Int) > 100) = false := by simp; omega
  obtain ⟨T, hT⟩ : ∃ T, textL ⟨op, a, b, c, n⟩ = T := ⟨_, rfl⟩
  have HTT := Lib.hid hT
  have hTl : T.length < 1000000 := by rw [← hT]; exact textL_len _
  have HRT : Hid (∀ W, Calls Tryd.prog 17 #[.agg #[.int .u8 op, .int .u8 a, .int .u8 b, .int .u8 c, .int .i64 n]] W fun e w' => e = .returned (.string ⟨T.toArray⟩) ∧ Chg Non W w') := Lib.hid (fun W => by have h := rText_ok op a b c n W hx; rw [hT] at h; exact h)
  obtain ⟨N, hN⟩ : ∃ N, (opAt op).name = N := ⟨_, rfl⟩
  have HNm : Hid (∀ W, Calls Tryd.prog 23 #[.int .u8 op] W fun e w' => e = .returned (.string ⟨N.toArray⟩) ∧ Chg Non W w') := Lib.hid (fun W => by have h := Name_ok op W; rw [hN] at h; exact h)
  obtain ⟨ez, hez⟩ : ∃ ez, pzE T = ez := ⟨_, rfl⟩
  obtain ⟨⟨zo, za, zb, zc, zn⟩, hz⟩ : ∃ z, pzI T = z := ⟨_, rfl⟩
  have HP : Hid (∀ W, Env W → Calls Tryd.prog 20 #[.string ⟨T.toArray⟩] W fun e w' => e = .returned (.tuple #[.agg #[.int .u8 zo, .int .u8 za, .int .u8 zb, .int .u8 zc, .int .i64 zn], .int .i64 ez]) ∧ Chg Non W w') := Lib.hid (fun W h => by have h := Parse_g T W h (by omega); rw [hez, hz] at h; exact h)
  have HRP : Hid (∀ W, Calls Tryd.prog 21 #[.string ⟨T.toArray⟩] W fun e w' => e = .returned (.tuple #[.agg #[.int .u8 zo, .int .u8 za, .int .u8 zb, .int .u8 zc, .int .i64 zn], .int .i64 ez]) ∧ Chg Non W w') := Lib.hid (fun W => by have h := rParse_g T W (by omega); rw [hez, hz] at h; exact h)
  have hop := kd_yes op hk
  have ho2 := hop.2
  have hk22 : (op : Int) < 22 := by omega
  obtain ⟨F, hFF⟩ : ∃ F, kdL (kdAt op) = F := ⟨_, rfl⟩
  have hne : (F == []) = false := by rw [← hFF]; exact kdL_ne _ hk
  have hF0 : F ≠ [] := by intro h; rw [h] at hne; simp at hne
  have hFe : (F.isEmpty) = false := by cases F with | nil => exact absurd rfl hF0 | cons x r => rfl
  have HF : Hid (∀ W, Calls Tryd.prog 18 #[.int .u8 op] W fun e w' => e = .returned (.string ⟨F.toArray⟩) ∧ Chg Non W w') := Lib.hid (fun W => by have h := Form_ok op W; rw [hFF] at h; exact h.mono fun e w' ⟨h1, h2⟩ => ⟨h1, h2 ▸ Chg.refl _ _⟩)
  have HNc : Hid (∀ W : World, (W.alloc (.cells namesC 9)).cell? ⟨W.heap.size, op, none⟩ = some (.string ⟨N.toArray⟩)) := Lib.hid (fun W => by have h := namesC_at op ho2 W 9; rw [Nat.zero_add, hN] at h; exact h)
  clear hFF hop
  clear hE hx hT hN hk hez hz
  go_enter Tryd.func4, Tryd.ntmps4
  go_wp2_with fail
  refine (HRT.out _).mono ?_
  rintro e w1 ⟨rfl, hg⟩
  have HB_X := Lib.hid (blockN hg (al_2_0 _ _ _))
  have HB_Y := Lib.hid (blockN hg (al_2_1 _ _ _))
  have HG : Hid (Chg Non w w1) := Lib.hid ((((Chg.refl Non w).alloc _).alloc _).then_non hg)
  clear hg
  obtain ⟨⟨z_X, c_X_0, c_X_1, c_X_2, c_X_3, c_X_4⟩, _⟩ := (Blk5.mk HB_X.out).all
  obtain ⟨⟨z_Y, c_Y_0, c_Y_1, c_Y_2, c_Y_3, c_Y_4⟩, _⟩ := (Blk5.mk HB_Y.out).all
  go_wp2_with fail
  refine (HF.out _).mono ?_
  rintro e w2 ⟨rfl, hg⟩
  have HB_X := Lib.hid (blockN ((Chg.refl Non _).then_non hg) HB_X.out)
  have HB_Y := Lib.hid (blockN ((Chg.refl Non _).then_non hg) HB_Y.out)
  have HG : Hid (Chg Non w w2) := Lib.hid ((HG.out).then_non hg)
  clear hg z_X c_X_0 c_X_1 c_X_2 c_X_3 c_X_4 z_Y c_Y_0 c_Y_1 c_Y_2 c_Y_3 c_Y_4
  obtain ⟨⟨z_X, c_X_0, c_X_1, c_X_2, c_X_3, c_X_4⟩, _⟩ := (Blk5.mk HB_X.out).all
  obtain ⟨⟨z_Y, c_Y_0, c_Y_1, c_Y_2, c_Y_3, c_Y_4⟩, _⟩ := (Blk5.mk HB_Y.out).all
  go_wp2_with fail
  refine wp_region_held_drew (S := fun W => W.cell? ⟨w.heap.size, 0, none⟩ = some (.int .u8 op)) (by kernel_rfl) c_X_0 (fun hHeld => ?_)
  refine h_pure 1 (some 35) (.pointer (some ⟨w.heap.size, 0, none⟩)) rfl (by kernel_rfl) (by kernel_rfl) (by kernel_rfl) (by kernel_rfl) (fun _ _ _ h => h) (by kernel_rfl) (fun W hW => by go_simp) hHeld ?_
  simp only [Act.put, List.setIfInBounds_toArray, List.set_cons_zero, List.set_cons_succ]
  refine h_pure 2 (some 36) (.int .u8 op) rfl (by kernel_rfl) (by kernel_rfl) (by kernel_rfl) (by kernel_rfl) (fun _ _ _ h => h) (by kernel_rfl) (fun W hW => by go_simp) hHeld ?_
  simp only [Act.put, List.setIfInBounds_toArray, List.set_cons_zero, List.set_cons_succ]
  refine h_one 0 (by kernel_rfl) rfl (by kernel_rfl) ?_
  intro K hK
  go_simp
  refine (rNames_ok _).mono ?_
  rintro e wn ⟨rfl, hwn⟩
  have hcell : wn.cell? ⟨w2.heap.size, op, none⟩ = some (.string ⟨N.toArray⟩) := by rw [← hwn]; exact HNc.out w2.drew
  have hg : Chg Non w2 wn := by rw [← hwn]; exact ((Chg.refl Non w2).drew).alloc _
  have hH2 : wn.cell? ⟨w.heap.size, 0, none⟩ = some (.int .u8 op) := hg.cell_some c_X_0 (fun e => e)
  clear hwn
  refine hK.out _ _ hH2 (fun _ => ?_)
  clear hK K
  refine h_one 3 (by kernel_rfl) rfl (by kernel_rfl) ?_
  intro K hK
  go_simp
  refine hK.out _ _ hH2 (fun _ => ?_)
  clear hK K
  refine h_one 4 (by kernel_rfl) rfl (by kernel_rfl) ?_
  intro K hK
  go_simp
  refine hK.out _ _ hH2 (fun _ => ?_)
  clear hK K
  refine h_one 5 (by kernel_rfl) rfl (by kernel_rfl) ?_
  intro K hK
  go_simp
  refine hK.out _ _ hH2 (fun _ => ?_)
  clear hK K
  refine wpAnyH_done (by kernel_rfl) ?_ _
  clear hHeld hcell hH2
  have HB_X := Lib.hid (blockN ((Chg.refl Non _).then_non hg) HB_X.out)
  have HB_Y := Lib.hid (blockN ((Chg.refl Non _).then_non hg) HB_Y.out)
  have HG : Hid (Chg Non w wn) := Lib.hid ((HG.out).then_non hg)
  clear hg z_X c_X_0 c_X_1 c_X_2 c_X_3 c_X_4 z_Y c_Y_0 c_Y_1 c_Y_2 c_Y_3 c_Y_4
  obtain ⟨⟨z_X, c_X_0, c_X_1, c_X_2, c_X_3, c_X_4⟩, _⟩ := (Blk5.mk HB_X.out).all
  obtain ⟨⟨z_Y, c_Y_0, c_Y_1, c_Y_2, c_Y_3, c_Y_4⟩, _⟩ := (Blk5.mk HB_Y.out).all
  go_wp2_with fail
  refine (HP.out _ (HE.out.non HG.out)).mono ?_
  rintro e w3 ⟨rfl, hg⟩
  have HB_X := Lib.hid (blockN ((Chg.refl Non _).then_non hg) HB_X.out)
  have HB_Y := Lib.hid (blockN ((Chg.refl Non _).then_non hg) HB_Y.out)
  have HG : Hid (Chg Non w w3) := Lib.hid ((HG.out).then_non hg)
  clear hg z_X c_X_0 c_X_1 c_X_2 c_X_3 c_X_4 z_Y c_Y_0 c_Y_1 c_Y_2 c_Y_3 c_Y_4
  obtain ⟨⟨z_X, c_X_0, c_X_1, c_X_2, c_X_3, c_X_4⟩, _⟩ := (Blk5.mk HB_X.out).all
  obtain ⟨⟨z_Y, c_Y_0, c_Y_1, c_Y_2, c_Y_3, c_Y_4⟩, _⟩ := (Blk5.mk HB_Y.out).all
  go_wp2_with fail
  refine (HRP.out _).mono ?_
  rintro e w4 ⟨rfl, hg⟩
  have HB_X := Lib.hid (blockN (((Chg.refl Non _).alloc _).then_non hg) HB_X.out)
  have HB_Y := Lib.hid (blockN (((Chg.refl Non _).alloc _).then_non hg) HB_Y.out)
  have HB_Z := Lib.hid (blockN hg (al_1_0 _ _))
  have HG : Hid (Chg Non w w4) := Lib.hid (((HG.out).alloc _).then_non hg)
  clear hg z_X c_X_0 c_X_1 c_X_2 c_X_3 c_X_4 z_Y c_Y_0 c_Y_1 c_Y_2 c_Y_3 c_Y_4
  obtain ⟨⟨z_X, c_X_0, c_X_1, c_X_2, c_X_3, c_X_4⟩, _⟩ := (Blk5.mk HB_X.out).all
  obtain ⟨⟨z_Y, c_Y_0, c_Y_1, c_Y_2, c_Y_3, c_Y_4⟩, _⟩ := (Blk5.mk HB_Y.out).all
  obtain ⟨⟨z_Z, c_Z_0, c_Z_1, c_Z_2, c_Z_3, c_Z_4⟩, _⟩ := (Blk5.mk HB_Z.out).all
  go_wp2_with fail
  clear z_X c_X_0 c_X_1 c_X_2 c_X_3 c_X_4 z_Y c_Y_0 c_Y_1 c_Y_2 c_Y_3 c_Y_4 z_Z c_Z_0 c_Z_1 c_Z_2 c_Z_3 c_Z_4
  refine wp_region_held_drew (S := fun v => Chg Non (w4.alloc (.cells #[.int .u8 zo, .int .u8 za, .int .u8 zb, .int .u8 zc, .int .i64 zn] 23)) v) (by kernel_rfl) ((Chg.refl Non _).drew) (fun hHeld => ?_)
  clear hHeld
  refine h_load 0 (some 49) 25 (.tmp 7) (w.heap.size + 1) 0 #[.int .u8 op, .int .u8 a, .int .u8 b, .int .u8 c, .int .i64 n] _ rfl (by kernel_rfl) (by kernel_rfl) (by kernel_rfl) (by kernel_rfl) (by kernel_rfl) (fun _ _ _ h => h) (by kernel_rfl) (by kernel_rfl) (fun w h => row_range (blockN (((Chg.refl Non _).alloc _).then_non h) HB_Y.out)) Tryd.underlying25 rfl info_ins ((Chg.refl _ _).drew) ?_
  simp only [Act.put, List.setIfInBounds_toArray, List.set_cons_zero, List.set_cons_succ]
  refine h_load 2 (some 51) 23 (.tmp 3) w.heap.size 0 #[.int .u8 op, .int .u8 a, .int .u8 b, .int .u8 c, .int .i64 n] _ rfl (by kernel_rfl) (by kernel_rfl) (by kernel_rfl) (by kernel_rfl) (by kernel_rfl) (fun _ _ _ h => h) (by kernel_rfl) (by kernel_rfl) (fun w h => row_range (blockN (((Chg.refl Non _).alloc _).then_non h) HB_X.out)) Tryd.underlying23 rfl info_rins ((Chg.refl _ _).drew) ?_
  simp only [Act.put, List.setIfInBounds_toArray, List.set_cons_zero, List.set_cons_succ]
  refine h_one 1 (by kernel_rfl) rfl (by kernel_rfl) ?_
  intro K hK
  go_simp
  refine (Text_v op a b c n T _ (HE.out.non ((HG.out.alloc _).drew)) HTT.out).mono ?_
  rintro e y1 ⟨rfl, hg1⟩
  have HY1 := Lib.hid (((Chg.refl Non _).drew).then_non hg1)
  clear hg1
  refine hK.out _ _ HY1.out (fun _ => ?_)
  clear hK K
  refine h_one 3 (by kernel_rfl) rfl (by kernel_rfl) ?_
  intro K hK
  go_simp
  refine (HRT.out _).mono ?_
  rintro e y2 ⟨rfl, hg2⟩
  have HY2 := Lib.hid (HY1.out.then_non hg2)
  clear hg2
  refine hK.out _ _ HY2.out (fun _ => ?_)
  clear hK K
  refine h_pure 4 (some 53) (.bool true) rfl (by kernel_rfl) (by kernel_rfl) (by kernel_rfl) (by kernel_rfl) (fun _ _ _ h => h) (by kernel_rfl) (fun w e => by go_simp) HY2.out ?_
  simp only [Act.put, List.setIfInBounds_toArray, List.set_cons_zero, List.set_cons_succ]
  refine h_pure 5 (some 54) (.bool true) rfl (by kernel_rfl) (by kernel_rfl) (by kernel_rfl) (by kernel_rfl) (fun _ _ _ h => h) (by kernel_rfl) (fun w e => by go_simp) HY2.out ?_
  simp only [Act.put, List.setIfInBounds_toArray, List.set_cons_zero, List.set_cons_succ]
  refine h_pure 6 (some 55) (.pointer (some ⟨w.heap.size, 0, none⟩)) rfl (by kernel_rfl) (by kernel_rfl) (by kernel_rfl) (by kernel_rfl) (fun _ _ _ h => h) (by kernel_rfl) (fun w e => by go_simp) HY2.out ?_
  simp only [Act.put, List.setIfInBounds_toArray, List.set_cons_zero, List.set_cons_succ]
  refine h_pure 9 (some 58) (.string ⟨N.toArray⟩) rfl (by kernel_rfl) (by kernel_rfl) (by kernel_rfl) (by kernel_rfl) (fun _ _ _ h => h) (by kernel_rfl) (fun w e => by go_simp) HY2.out ?_
  simp only [Act.put, List.setIfInBounds_toArray, List.set_cons_zero, List.set_cons_succ]
  refine h_pure 7 (some 56) (.int .u8 op) rfl (by kernel_rfl) (by kernel_rfl) (by kernel_rfl) (by kernel_rfl) (fun _ _ _ h => h) (by kernel_rfl) (fun w e => by obtain ⟨⟨_, hc0, _⟩, _⟩ := (Blk5.mk (blockN (((Chg.refl Non _).alloc _).then_non e) HB_X.out)).all; go_simp) HY2.out ?_
  simp only [Act.put, List.setIfInBounds_toArray, List.set_cons_zero, List.set_cons_succ]
  refine h_one 8 (by kernel_rfl) rfl (by kernel_rfl) ?_
  intro K hK
  go_simp
  refine (HNm.out _).mono ?_
  rintro e y3 ⟨rfl, hg3⟩
  have HY3 := Lib.hid (HY2.out.then_non hg3)
  clear hg3
  refine hK.out _ _ HY3.out (fun _ => ?_)
  clear hK K
  refine h_pure 10 (some 59) (.bool true) rfl (by kernel_rfl) (by kernel_rfl) (by kernel_rfl) (by kernel_rfl) (fun _ _ _ h => h) (by kernel_rfl) (fun w e => by go_simp) HY3.out ?_
  simp only [Act.put, List.setIfInBounds_toArray, List.set_cons_zero, List.set_cons_succ]
  refine h_pure 11 (some 60) (.bool true) rfl (by kernel_rfl) (by kernel_rfl) (by kernel_rfl) (by kernel_rfl) (fun _ _ _ h => h) (by kernel_rfl) (fun w e => by go_simp) HY3.out ?_
  simp only [Act.put, List.setIfInBounds_toArray, List.set_cons_zero, List.set_cons_succ]
  refine h_pure 12 (some 61) (.bool true) rfl (by kernel_rfl) (by kernel_rfl) (by kernel_rfl) (by kernel_rfl) (fun _ _ _ h => h) (by kernel_rfl) (fun w e => by go_simp) HY3.out ?_
  simp only [Act.put, List.setIfInBounds_toArray, List.set_cons_zero, List.set_cons_succ]
  refine h_pure 13 (some 62) (.int .i64 ez) rfl (by kernel_rfl) (by kernel_rfl) (by kernel_rfl) (by kernel_rfl) (fun _ _ _ h => h) (by kernel_rfl) (fun w e => by go_simp) HY3.out ?_
  simp only [Act.put, List.setIfInBounds_toArray, List.set_cons_zero, List.set_cons_succ]
  refine h_pure 14 (some 63) (.int .i64 ez) rfl (by kernel_rfl) (by kernel_rfl) (by kernel_rfl) (by kernel_rfl) (fun _ _ _ h => h) (by kernel_rfl) (fun w e => by go_simp) HY3.out ?_
  simp only [Act.put, List.setIfInBounds_toArray, List.set_cons_zero, List.set_cons_succ]
  refine h_pure 15 (some 64) (.bool true) rfl (by kernel_rfl) (by kernel_rfl) (by kernel_rfl) (by kernel_rfl) (fun _ _ _ h => h) (by kernel_rfl) (fun w e => by go_simp) HY3.out ?_
  simp only [Act.put, List.setIfInBounds_toArray, List.set_cons_zero, List.set_cons_succ]
  refine h_pure 16 (some 65) (.bool true) rfl (by kernel_rfl) (by kernel_rfl) (by kernel_rfl) (by kernel_rfl) (fun _ _ _ h => h) (by kernel_rfl) (fun w e => by go_simp) HY3.out ?_
  simp only [Act.put, List.setIfInBounds_toArray, List.set_cons_zero, List.set_cons_succ]
  refine h_pure 17 (some 66) (.bool true) rfl (by kernel_rfl) (by kernel_rfl) (by kernel_rfl) (by kernel_rfl) (fun _ _ _ h => h) (by kernel_rfl) (fun w e => by go_simp) HY3.out ?_
  simp only [Act.put, List.setIfInBounds_toArray, List.set_cons_zero, List.set_cons_succ]
  refine h_load 18 (some 67) 25 (.tmp 9) w3.heap.size 0 #[.int .u8 zo, .int .u8 za, .int .u8 zb, .int .u8 zc, .int .i64 zn] _ rfl (by kernel_rfl) (by kernel_rfl) (by kernel_rfl) (by kernel_rfl) (by kernel_rfl) (fun _ _ _ h => h) (by kernel_rfl) (by kernel_rfl) (fun w h => row_range (blockN (((Chg.refl Non _).alloc _).then_non h) HB_Z.out)) Tryd.underlying25 rfl info_ins HY3.out ?_
  simp only [Act.put, List.setIfInBounds_toArray, List.set_cons_zero, List.set_cons_succ]
  refine h_load 19 (some 68) 23 (.tmp 11) w4.heap.size 0 #[.int .u8 zo, .int .u8 za, .int .u8 zb, .int .u8 zc, .int .i64 zn] _ rfl (by kernel_rfl) (by kernel_rfl) (by kernel_rfl) (by kernel_rfl) (by kernel_rfl) (fun _ _ _ h => h) (by kernel_rfl) (by kernel_rfl) (fun w h => row_range (blockN h (al_1_0 _ _))) Tryd.underlying23 rfl info_rins HY3.out ?_
  simp only [Act.put, List.setIfInBounds_toArray, List.set_cons_zero, List.set_cons_succ]
  refine h_one 20 (by kernel_rfl) rfl (by kernel_rfl) ?_
  intro K hK
  go_simp
  refine (is_ok zo za zb zc zn _).mono ?_
  rintro e y4 ⟨rfl, hg4⟩
  have HY4 := Lib.hid (HY3.out.then_non hg4)
  clear hg4
  refine hK.out _ _ HY4.out (fun _ => ?_)
  clear hK K
  refine h_pure 21 (some 70) (.bool true) rfl (by kernel_rfl) (by kernel_rfl) (by kernel_rfl) (by kernel_rfl) (fun _ _ _ h => h) (by kernel_rfl) (fun w e => by go_simp) HY4.out ?_
  simp only [Act.put, List.setIfInBounds_toArray, List.set_cons_zero, List.set_cons_succ]
  refine h_pure 22 (some 71) (.bool true) rfl (by kernel_rfl) (by kernel_rfl) (by kernel_rfl) (by kernel_rfl) (fun _ _ _ h => h) (by kernel_rfl) (fun w e => by go_simp) HY4.out ?_
  simp only [Act.put, List.setIfInBounds_toArray, List.set_cons_zero, List.set_cons_succ]
  refine h_one 23 (by kernel_rfl) rfl (by kernel_rfl) ?_
  intro K hK
  go_simp
  refine (iawake_ok _ (HE.out.non ((HG.out.alloc _).then_non HY4.out))).mono ?_
  rintro e y5 ⟨rfl, hg5⟩
  have HY5 := Lib.hid (HY4.out.then_non hg5)
  clear hg5
  refine hK.out _ _ HY5.out (fun _ => ?_)
  clear hK K
  refine h_pure 24 (some 73) (.bool true) rfl (by kernel_rfl) (by kernel_rfl) (by kernel_rfl) (by kernel_rfl) (fun _ _ _ h => h) (by kernel_rfl) (fun w e => by go_simp) HY5.out ?_
  simp only [Act.put, List.setIfInBounds_toArray, List.set_cons_zero, List.set_cons_succ]
  refine h_pure 25 (some 6) (.bool true) rfl (by kernel_rfl) (by kernel_rfl) (by kernel_rfl) (by kernel_rfl) (fun _ _ _ h => h) (by kernel_rfl) (fun w e => by go_simp) HY5.out ?_
  simp only [Act.put, List.setIfInBounds_toArray, List.set_cons_zero, List.set_cons_succ]
  refine wpAnyH_done (by kernel_rfl) ?_ _
  go_wp2_with fail
  go_ret
  exact ⟨rfl, (HG.out.alloc _).then_non HY5.out⟩
set_option maxRecDepth 100000 in
set_option maxHeartbeats 4000000 in
theorem texts_01 (op a b c : Nat) (n : Int) (l : List UInt8) (w : World) (hE : Env w) (hx : Ins.Bd ⟨op, a, b, c, n⟩) (hl : l.length ≤ 100) (hk : kdAt op = .no) :
    Calls Tryd.prog 4 #[.agg #[.int .u8 op, .int .u8 a, .int .u8 b, .int .u8 c, .int .i64 n], .string ⟨l.toArray⟩, .bool false] w fun e w' => e = .returned (.bool true) ∧ Chg Non w w' := by
  have HE := Lib.hid hE
  have hb100 : decide ((l.length : Int) > 100) = false := by simp; omega
  obtain ⟨T, hT⟩ : ∃ T, textL ⟨op, a, b, c, n⟩ = T := ⟨_, rfl⟩
  have HTT := Lib.hid hT
  have hTl : T.length < 1000000 := by rw [← hT]; exact textL_len _
  have HRT : Hid (∀ W, Calls Tryd.prog 17 #[.agg #[.int .u8 op, .int .u8 a, .int .u8 b, .int .u8 c, .int .i64 n]] W fun e w' => e = .returned (.string ⟨T.toArray⟩) ∧ Chg Non W w') := Lib.hid (fun W => by have h := rText_ok op a b c n W hx; rw [hT] at h; exact h)
  obtain ⟨N, hN⟩ : ∃ N, (opAt op).name = N := ⟨_, rfl⟩
  have HNm : Hid (∀ W, Calls Tryd.prog 23 #[.int .u8 op] W fun e w' => e = .returned (.string ⟨N.toArray⟩) ∧ Chg Non W w') := Lib.hid (fun W => by have h := Name_ok op W; rw [hN] at h; exact h)
  obtain ⟨ez, hez⟩ : ∃ ez, pzE l = ez := ⟨_, rfl⟩
  obtain ⟨⟨zo, za, zb, zc, zn⟩, hz⟩ : ∃ z, pzI l = z := ⟨_, rfl⟩
  have HP : Hid (∀ W, Env W → Calls Tryd.prog 20 #[.string ⟨l.toArray⟩] W fun e w' => e = .returned (.tuple #[.agg #[.int .u8 zo, .int .u8 za, .int .u8 zb, .int .u8 zc, .int .i64 zn], .int .i64 ez]) ∧ Chg Non W w') := Lib.hid (fun W h => by have h := Parse_g l W h (by omega); rw [hez, hz] at h; exact h)
  have HRP : Hid (∀ W, Calls Tryd.prog 21 #[.string ⟨l.toArray⟩] W fun e w' => e = .returned (.tuple #[.agg #[.int .u8 zo, .int .u8 za, .int .u8 zb, .int .u8 zc, .int .i64 zn], .int .i64 ez]) ∧ Chg Non W w') := Lib.hid (fun W => by have h := rParse_g l W (by omega); rw [hez, hz] at h; exact h)
  have hN0 : N = [] := by rw [← hN]; exact name_no op hk
  have HF : Hid (∀ W, Calls Tryd.prog 18 #[.int .u8 op] W fun e w' => e = .returned (.string ⟨#[]⟩) ∧ Chg Non W w') := Lib.hid (fun W => by have h := Form_ok op W; rw [hk] at h; exact h.mono fun e w' ⟨h1, h2⟩ => ⟨h1, h2 ▸ Chg.refl _ _⟩)
  subst hN0
  clear hE hx hT hN hk hez hz
  go_enter Tryd.func4, Tryd.ntmps4
  go_wp2_with fail
  refine (HF.out _).mono ?_
  rintro e w1 ⟨rfl, hg⟩
  have HB_X := Lib.hid (blockN hg (al_2_0 _ _ _))
  have HB_Y := Lib.hid (blockN hg (al_2_1 _ _ _))
  have HG : Hid (Chg Non w w1) := Lib.hid ((((Chg.refl Non w).alloc _).alloc _).then_non hg)
  clear hg
  obtain ⟨⟨z_X, c_X_0, c_X_1, c_X_2, c_X_3, c_X_4⟩, _⟩ := (Blk5.mk HB_X.out).all
  obtain ⟨⟨z_Y, c_Y_0, c_Y_1, c_Y_2, c_Y_3, c_Y_4⟩, _⟩ := (Blk5.mk HB_Y.out).all
  go_wp2_with fail
  refine (HP.out _ (HE.out.non HG.out)).mono ?_
  rintro e w2 ⟨rfl, hg⟩
  have HB_X := Lib.hid (blockN ((Chg.refl Non _).then_non hg) HB_X.out)
  have HB_Y := Lib.hid (blockN ((Chg.refl Non _).then_non hg) HB_Y.out)
  have HG : Hid (Chg Non w w2) := Lib.hid ((HG.out).then_non hg)
  clear hg z_X c_X_0 c_X_1 c_X_2 c_X_3 c_X_4 z_Y c_Y_0 c_Y_1 c_Y_2 c_Y_3 c_Y_4
  obtain ⟨⟨z_X, c_X_0, c_X_1, c_X_2, c_X_3, c_X_4⟩, _⟩ := (Blk5.mk HB_X.out).all
  obtain ⟨⟨z_Y, c_Y_0, c_Y_1, c_Y_2, c_Y_3, c_Y_4⟩, _⟩ := (Blk5.mk HB_Y.out).all
  go_wp2_with fail
  refine (HRP.out _).mono ?_
  rintro e w3 ⟨rfl, hg⟩
  have HB_X := Lib.hid (blockN (((Chg.refl Non _).alloc _).then_non hg) HB_X.out)
  have HB_Y := Lib.hid (blockN (((Chg.refl Non _).alloc _).then_non hg) HB_Y.out)
  have HB_Z := Lib.hid (blockN hg (al_1_0 _ _))
  have HG : Hid (Chg Non w w3) := Lib.hid (((HG.out).alloc _).then_non hg)
  clear hg z_X c_X_0 c_X_1 c_X_2 c_X_3 c_X_4 z_Y c_Y_0 c_Y_1 c_Y_2 c_Y_3 c_Y_4
  obtain ⟨⟨z_X, c_X_0, c_X_1, c_X_2, c_X_3, c_X_4⟩, _⟩ := (Blk5.mk HB_X.out).all
  obtain ⟨⟨z_Y, c_Y_0, c_Y_1, c_Y_2, c_Y_3, c_Y_4⟩, _⟩ := (Blk5.mk HB_Y.out).all
  obtain ⟨⟨z_Z, c_Z_0, c_Z_1, c_Z_2, c_Z_3, c_Z_4⟩, _⟩ := (Blk5.mk HB_Z.out).all
  go_wp2_with fail
  clear z_X c_X_0 c_X_1 c_X_2 c_X_3 c_X_4 z_Y c_Y_0 c_Y_1 c_Y_2 c_Y_3 c_Y_4 z_Z c_Z_0 c_Z_1 c_Z_2 c_Z_3 c_Z_4
  refine wp_region_held_drew (S := fun v => Chg Non (w3.alloc (.cells #[.int .u8 zo, .int .u8 za, .int .u8 zb, .int .u8 zc, .int .i64 zn] 23)) v) (by kernel_rfl) ((Chg.refl Non _).drew) (fun hHeld => ?_)
  clear hHeld
  refine h_load 0 (some 49) 25 (.tmp 7) (w.heap.size + 1) 0 #[.int .u8 op, .int .u8 a, .int .u8 b, .int .u8 c, .int .i64 n] _ rfl (by kernel_rfl) (by kernel_rfl) (by kernel_rfl) (by kernel_rfl) (by kernel_rfl) (fun _ _ _ h => h) (by kernel_rfl) (by kernel_rfl) (fun w h => row_range (blockN (((Chg.refl Non _).alloc _).then_non h) HB_Y.out)) Tryd.underlying25 rfl info_ins ((Chg.refl _ _).drew) ?_
  simp only [Act.put, List.setIfInBounds_toArray, List.set_cons_zero, List.set_cons_succ]
  refine h_load 2 (some 51) 23 (.tmp 3) w.heap.size 0 #[.int .u8 op, .int .u8 a, .int .u8 b, .int .u8 c, .int .i64 n] _ rfl (by kernel_rfl) (by kernel_rfl) (by kernel_rfl) (by kernel_rfl) (by kernel_rfl) (fun _ _ _ h => h) (by kernel_rfl) (by kernel_rfl) (fun w h => row_range (blockN (((Chg.refl Non _).alloc _).then_non h) HB_X.out)) Tryd.underlying23 rfl info_rins ((Chg.refl _ _).drew) ?_
  simp only [Act.put, List.setIfInBounds_toArray, List.set_cons_zero, List.set_cons_succ]
  refine h_one 1 (by kernel_rfl) rfl (by kernel_rfl) ?_
  intro K hK
  go_simp
  refine (Text_v op a b c n T _ (HE.out.non ((HG.out.alloc _).drew)) HTT.out).mono ?_
  rintro e y1 ⟨rfl, hg1⟩
  have HY1 := Lib.hid (((Chg.refl Non _).drew).then_non hg1)
  clear hg1
  refine hK.out _ _ HY1.out (fun _ => ?_)
  clear hK K
  refine h_one 3 (by kernel_rfl) rfl (by kernel_rfl) ?_
  intro K hK
  go_simp
  refine (HRT.out _).mono ?_
  rintro e y2 ⟨rfl, hg2⟩
  have HY2 := Lib.hid (HY1.out.then_non hg2)
  clear hg2
  refine hK.out _ _ HY2.out (fun _ => ?_)
  clear hK K
  refine h_pure 4 (some 53) (.bool true) rfl (by kernel_rfl) (by kernel_rfl) (by kernel_rfl) (by kernel_rfl) (fun _ _ _ h => h) (by kernel_rfl) (fun w e => by go_simp) HY2.out ?_
  simp only [Act.put, List.setIfInBounds_toArray, List.set_cons_zero, List.set_cons_succ]
  refine h_pure 5 (some 54) (.bool true) rfl (by kernel_rfl) (by kernel_rfl) (by kernel_rfl) (by kernel_rfl) (fun _ _ _ h => h) (by kernel_rfl) (fun w e => by go_simp) HY2.out ?_
  simp only [Act.put, List.setIfInBounds_toArray, List.set_cons_zero, List.set_cons_succ]
  refine h_pure 6 (some 55) (.pointer (some ⟨w.heap.size, 0, none⟩)) rfl (by kernel_rfl) (by kernel_rfl) (by kernel_rfl) (by kernel_rfl) (fun _ _ _ h => h) (by kernel_rfl) (fun w e => by go_simp) HY2.out ?_
  simp only [Act.put, List.setIfInBounds_toArray, List.set_cons_zero, List.set_cons_succ]
  refine h_pure 9 (some 58) (.string ⟨#[]⟩) rfl (by kernel_rfl) (by kernel_rfl) (by kernel_rfl) (by kernel_rfl) (fun _ _ _ h => h) (by kernel_rfl) (fun w e => by go_simp) HY2.out ?_
  simp only [Act.put, List.setIfInBounds_toArray, List.set_cons_zero, List.set_cons_succ]
  refine h_pure 7 (some 56) (.int .u8 op) rfl (by kernel_rfl) (by kernel_rfl) (by kernel_rfl) (by kernel_rfl) (fun _ _ _ h => h) (by kernel_rfl) (fun w e => by obtain ⟨⟨_, hc0, _⟩, _⟩ := (Blk5.mk (blockN (((Chg.refl Non _).alloc _).then_non e) HB_X.out)).all; go_simp) HY2.out ?_
  simp only [Act.put, List.setIfInBounds_toArray, List.set_cons_zero, List.set_cons_succ]
  refine h_one 8 (by kernel_rfl) rfl (by kernel_rfl) ?_
  intro K hK
  go_simp
  refine (HNm.out _).mono ?_
  rintro e y3 ⟨rfl, hg3⟩
  have HY3 := Lib.hid (HY2.out.then_non hg3)
  clear hg3
  refine hK.out _ _ HY3.out (fun _ => ?_)
  clear hK K
  refine h_pure 10 (some 59) (.bool true) rfl (by kernel_rfl) (by kernel_rfl) (by kernel_rfl) (by kernel_rfl) (fun _ _ _ h => h) (by kernel_rfl) (fun w e => by go_simp) HY3.out ?_
  simp only [Act.put, List.setIfInBounds_toArray, List.set_cons_zero, List.set_cons_succ]
  refine h_pure 11 (some 60) (.bool true) rfl (by kernel_rfl) (by kernel_rfl) (by kernel_rfl) (by kernel_rfl) (fun _ _ _ h => h) (by kernel_rfl) (fun w e => by go_simp) HY3.out ?_
  simp only [Act.put, List.setIfInBounds_toArray, List.set_cons_zero, List.set_cons_succ]
  refine h_pure 12 (some 61) (.bool true) rfl (by kernel_rfl) (by kernel_rfl) (by kernel_rfl) (by kernel_rfl) (fun _ _ _ h => h) (by kernel_rfl) (fun w e => by go_simp) HY3.out ?_
  simp only [Act.put, List.setIfInBounds_toArray, List.set_cons_zero, List.set_cons_succ]
  refine h_pure 13 (some 62) (.int .i64 ez) rfl (by kernel_rfl) (by kernel_rfl) (by kernel_rfl) (by kernel_rfl) (fun _ _ _ h => h) (by kernel_rfl) (fun w e => by go_simp) HY3.out ?_
  simp only [Act.put, List.setIfInBounds_toArray, List.set_cons_zero, List.set_cons_succ]
  refine h_pure 14 (some 63) (.int .i64 ez) rfl (by kernel_rfl) (by kernel_rfl) (by kernel_rfl) (by kernel_rfl) (fun _ _ _ h => h) (by kernel_rfl) (fun w e => by go_simp) HY3.out ?_
  simp only [Act.put, List.setIfInBounds_toArray, List.set_cons_zero, List.set_cons_succ]
  refine h_pure 15 (some 64) (.bool true) rfl (by kernel_rfl) (by kernel_rfl) (by kernel_rfl) (by kernel_rfl) (fun _ _ _ h => h) (by kernel_rfl) (fun w e => by go_simp) HY3.out ?_
  simp only [Act.put, List.setIfInBounds_toArray, List.set_cons_zero, List.set_cons_succ]
  refine h_pure 16 (some 65) (.bool true) rfl (by kernel_rfl) (by kernel_rfl) (by kernel_rfl) (by kernel_rfl) (fun _ _ _ h => h) (by kernel_rfl) (fun w e => by go_simp) HY3.out ?_
  simp only [Act.put, List.setIfInBounds_toArray, List.set_cons_zero, List.set_cons_succ]
  refine h_pure 17 (some 66) (.bool true) rfl (by kernel_rfl) (by kernel_rfl) (by kernel_rfl) (by kernel_rfl) (fun _ _ _ h => h) (by kernel_rfl) (fun w e => by go_simp) HY3.out ?_
  simp only [Act.put, List.setIfInBounds_toArray, List.set_cons_zero, List.set_cons_succ]
  refine h_load 18 (some 67) 25 (.tmp 9) w2.heap.size 0 #[.int .u8 zo, .int .u8 za, .int .u8 zb, .int .u8 zc, .int .i64 zn] _ rfl (by kernel_rfl) (by kernel_rfl) (by kernel_rfl) (by kernel_rfl) (by kernel_rfl) (fun _ _ _ h => h) (by kernel_rfl) (by kernel_rfl) (fun w h => row_range (blockN (((Chg.refl Non _).alloc _).then_non h) HB_Z.out)) Tryd.underlying25 rfl info_ins HY3.out ?_
  simp only [Act.put, List.setIfInBounds_toArray, List.set_cons_zero, List.set_cons_succ]
  refine h_load 19 (some 68) 23 (.tmp 11) w3.heap.size 0 #[.int .u8 zo, .int .u8 za, .int .u8 zb, .int .u8 zc, .int .i64 zn] _ rfl (by kernel_rfl) (by kernel_rfl) (by kernel_rfl) (by kernel_rfl) (by kernel_rfl) (fun _ _ _ h => h) (by kernel_rfl) (by kernel_rfl) (fun w h => row_range (blockN h (al_1_0 _ _))) Tryd.underlying23 rfl info_rins HY3.out ?_
  simp only [Act.put, List.setIfInBounds_toArray, List.set_cons_zero, List.set_cons_succ]
  refine h_one 20 (by kernel_rfl) rfl (by kernel_rfl) ?_
  intro K hK
  go_simp
  refine (is_ok zo za zb zc zn _).mono ?_
  rintro e y4 ⟨rfl, hg4⟩
  have HY4 := Lib.hid (HY3.out.then_non hg4)
  clear hg4
  refine hK.out _ _ HY4.out (fun _ => ?_)
  clear hK K
  refine h_pure 21 (some 70) (.bool true) rfl (by kernel_rfl) (by kernel_rfl) (by kernel_rfl) (by kernel_rfl) (fun _ _ _ h => h) (by kernel_rfl) (fun w e => by go_simp) HY4.out ?_
  simp only [Act.put, List.setIfInBounds_toArray, List.set_cons_zero, List.set_cons_succ]
  refine h_pure 22 (some 71) (.bool true) rfl (by kernel_rfl) (by kernel_rfl) (by kernel_rfl) (by kernel_rfl) (fun _ _ _ h => h) (by kernel_rfl) (fun w e => by go_simp) HY4.out ?_
  simp only [Act.put, List.setIfInBounds_toArray, List.set_cons_zero, List.set_cons_succ]
  refine h_one 23 (by kernel_rfl) rfl (by kernel_rfl) ?_
  intro K hK
  go_simp
  refine (iawake_ok _ (HE.out.non ((HG.out.alloc _).then_non HY4.out))).mono ?_
  rintro e y5 ⟨rfl, hg5⟩
  have HY5 := Lib.hid (HY4.out.then_non hg5)
  clear hg5
  refine hK.out _ _ HY5.out (fun _ => ?_)
  clear hK K
  refine h_pure 24 (some 73) (.bool true) rfl (by kernel_rfl) (by kernel_rfl) (by kernel_rfl) (by kernel_rfl) (fun _ _ _ h => h) (by kernel_rfl) (fun w e => by go_simp) HY5.out ?_
  simp only [Act.put, List.setIfInBounds_toArray, List.set_cons_zero, List.set_cons_succ]
  refine h_pure 25 (some 6) (.bool true) rfl (by kernel_rfl) (by kernel_rfl) (by kernel_rfl) (by kernel_rfl) (fun _ _ _ h => h) (by kernel_rfl) (fun w e => by go_simp) HY5.out ?_
  simp only [Act.put, List.setIfInBounds_toArray, List.set_cons_zero, List.set_cons_succ]
  refine wpAnyH_done (by kernel_rfl) ?_ _
  go_wp2_with fail
  go_ret
  exact ⟨rfl, (HG.out.alloc _).then_non HY5.out⟩
set_option maxRecDepth 100000 in
set_option maxHeartbeats 4000000 in
theorem texts_00 (op a b c : Nat) (n : Int) (l : List UInt8) (w : World) (hE : Env w) (hx : Ins.Bd ⟨op, a, b, c, n⟩) (hl : l.length ≤ 100) (hk : kdAt op ≠ .no) :
    Calls Tryd.prog 4 #[.agg #[.int .u8 op, .int .u8 a, .int .u8 b, .int .u8 c, .int .i64 n], .string ⟨l.toArray⟩, .bool false] w fun e w' => e = .returned (.bool true) ∧ Chg Non w w' := by
  have HE := Lib.hid hE
  have hb100 : decide ((l.length : Int) > 100) = false := by simp; omega
  obtain ⟨T, hT⟩ : ∃ T, textL ⟨op, a, b, c, n⟩ = T := ⟨_, rfl⟩
  have HTT := Lib.hid hT
  have hTl : T.length < 1000000 := by rw [← hT]; exact textL_len _
  have HRT : Hid (∀ W, Calls Tryd.prog 17 #[.agg #[.int .u8 op, .int .u8 a, .int .u8 b, .int .u8 c, .int .i64 n]] W fun e w' => e = .returned (.string ⟨T.toArray⟩) ∧ Chg Non W w') := Lib.hid (fun W => by have h := rText_ok op a b c n W hx; rw [hT] at h; exact h)
  obtain ⟨N, hN⟩ : ∃ N, (opAt op).name = N := ⟨_, rfl⟩
  have HNm : Hid (∀ W, Calls Tryd.prog 23 #[.int .u8 op] W fun e w' => e = .returned (.string ⟨N.toArray⟩) ∧ Chg Non W w') := Lib.hid (fun W => by have h := Name_ok op W; rw [hN] at h; exact h)
  obtain ⟨ez, hez⟩ : ∃ ez, pzE l = ez := ⟨_, rfl⟩
  obtain ⟨⟨zo, za, zb, zc, zn⟩, hz⟩ : ∃ z, pzI l = z := ⟨_, rfl⟩
  have HP : Hid (∀ W, Env W → Calls Tryd.prog 20 #[.string ⟨l.toArray⟩] W fun e w' => e = .returned (.tuple #[.agg #[.int .u8 zo, .int .u8 za, .int .u8 zb, .int .u8 zc, .int .i64 zn], .int .i64 ez]) ∧ Chg Non W w') := Lib.hid (fun W h => by have h := Parse_g l W h (by omega); rw [hez, hz] at h; exact h)
  have HRP : Hid (∀ W, Calls Tryd.prog 21 #[.string ⟨l.toArray⟩] W fun e w' => e = .returned (.tuple #[.agg #[.int .u8 zo, .int .u8 za, .int .u8 zb, .int .u8 zc, .int .i64 zn], .int .i64 ez]) ∧ Chg Non W w') := Lib.hid (fun W => by have h := rParse_g l W (by omega); rw [hez, hz] at h; exact h)
  have hop := kd_yes op hk
  have ho2 := hop.2
  have hk22 : (op : Int) < 22 := by omega
  obtain ⟨F, hFF⟩ : ∃ F, kdL (kdAt op) = F := ⟨_, rfl⟩
  have hne : (F == []) = false := by rw [← hFF]; exact kdL_ne _ hk
  have hF0 : F ≠ [] := by intro h; rw [h] at hne; simp at hne
  have hFe : (F.isEmpty) = false := by cases F with | nil => exact absurd rfl hF0 | cons x r => rfl
  have HF : Hid (∀ W, Calls Tryd.prog 18 #[.int .u8 op] W fun e w' => e = .returned (.string ⟨F.toArray⟩) ∧ Chg Non W w') := Lib.hid (fun W => by have h := Form_ok op W; rw [hFF] at h; exact h.mono fun e w' ⟨h1, h2⟩ => ⟨h1, h2 ▸ Chg.refl _ _⟩)
  have HNc : Hid (∀ W : World, (W.alloc (.cells namesC 9)).cell? ⟨W.heap.size, op, none⟩ = some (.string ⟨N.toArray⟩)) := Lib.hid (fun W => by have h := namesC_at op ho2 W 9; rw [Nat.zero_add, hN] at h; exact h)
  clear hFF hop
  clear hE hx hT hN hk hez hz
  go_enter Tryd.func4, Tryd.ntmps4
  go_wp2_with fail
  refine (HF.out _).mono ?_
  rintro e w1 ⟨rfl, hg⟩
  have HB_X := Lib.hid (blockN hg (al_2_0 _ _ _))
  have HB_Y := Lib.hid (blockN hg (al_2_1 _ _ _))
  have HG : Hid (Chg Non w w1) := Lib.hid ((((Chg.refl Non w).alloc _).alloc _).then_non hg)
  clear hg
  obtain ⟨⟨z_X, c_X_0, c_X_1, c_X_2, c_X_3, c_X_4⟩, _⟩ := (Blk5.mk HB_X.out).all
  obtain ⟨⟨z_Y, c_Y_0, c_Y_1, c_Y_2, c_Y_3, c_Y_4⟩, _⟩ := (Blk5.mk HB_Y.out).all
  go_wp2_with fail
  refine wp_region_held_drew (S := fun W => W.cell? ⟨w.heap.size, 0, none⟩ = some (.int .u8 op)) (by kernel_rfl) c_X_0 (fun hHeld => ?_)
  refine h_pure 1 (some 35) (.pointer (some ⟨w.heap.size, 0, none⟩)) rfl (by kernel_rfl) (by kernel_rfl) (by kernel_rfl) (by kernel_rfl) (fun _ _ _ h => h) (by kernel_rfl) (fun W hW => by go_simp) hHeld ?_
  simp only [Act.put, List.setIfInBounds_toArray, List.set_cons_zero, List.set_cons_succ]
  refine h_pure 2 (some 36) (.int .u8 op) rfl (by kernel_rfl) (by kernel_rfl) (by kernel_rfl) (by kernel_rfl) (fun _ _ _ h => h) (by kernel_rfl) (fun W hW => by go_simp) hHeld ?_
  simp only [Act.put, List.setIfInBounds_toArray, List.set_cons_zero, List.set_cons_succ]
  refine h_one 0 (by kernel_rfl) rfl (by kernel_rfl) ?_
  intro K hK
  go_simp
  refine (rNames_ok _).mono ?_
  rintro e wn ⟨rfl, hwn⟩
  have hcell : wn.cell? ⟨w1.heap.size, op, none⟩ = some (.string ⟨N.toArray⟩) := by rw [← hwn]; exact HNc.out w1.drew
  have hg : Chg Non w1 wn := by rw [← hwn]; exact ((Chg.refl Non w1).drew).alloc _
  have hH2 : wn.cell? ⟨w.heap.size, 0, none⟩ = some (.int .u8 op) := hg.cell_some c_X_0 (fun e => e)
  clear hwn
  refine hK.out _ _ hH2 (fun _ => ?_)
  clear hK K
  refine h_one 3 (by kernel_rfl) rfl (by kernel_rfl) ?_
  intro K hK
  go_simp
  refine hK.out _ _ hH2 (fun _ => ?_)
  clear hK K
  refine h_one 4 (by kernel_rfl) rfl (by kernel_rfl) ?_
  intro K hK
  go_simp
  refine hK.out _ _ hH2 (fun _ => ?_)
  clear hK K
  refine h_one 5 (by kernel_rfl) rfl (by kernel_rfl) ?_
  intro K hK
  go_simp
  refine hK.out _ _ hH2 (fun _ => ?_)
  clear hK K
  refine wpAnyH_done (by kernel_rfl) ?_ _
  clear hHeld hcell hH2
  have HB_X := Lib.hid (blockN ((Chg.refl Non _).then_non hg) HB_X.out)
  have HB_Y := Lib.hid (blockN ((Chg.refl Non _).then_non hg) HB_Y.out)
  have HG : Hid (Chg Non w wn) := Lib.hid ((HG.out).then_non hg)
  clear hg z_X c_X_0 c_X_1 c_X_2 c_X_3 c_X_4 z_Y c_Y_0 c_Y_1 c_Y_2 c_Y_3 c_Y_4
  obtain ⟨⟨z_X, c_X_0, c_X_1, c_X_2, c_X_3, c_X_4⟩, _⟩ := (Blk5.mk HB_X.out).all
  obtain ⟨⟨z_Y, c_Y_0, c_Y_1, c_Y_2, c_Y_3, c_Y_4⟩, _⟩ := (Blk5.mk HB_Y.out).all
  go_wp2_with fail
  refine (HP.out _ (HE.out.non HG.out)).mono ?_
  rintro e w2 ⟨rfl, hg⟩
  have HB_X := Lib.hid (blockN ((Chg.refl Non _).then_non hg) HB_X.out)
  have HB_Y := Lib.hid (blockN ((Chg.refl Non _).then_non hg) HB_Y.out)
  have HG : Hid (Chg Non w w2) := Lib.hid ((HG.out).then_non hg)
  clear hg z_X c_X_0 c_X_1 c_X_2 c_X_3 c_X_4 z_Y c_Y_0 c_Y_1 c_Y_2 c_Y_3 c_Y_4
  obtain ⟨⟨z_X, c_X_0, c_X_1, c_X_2, c_X_3, c_X_4⟩, _⟩ := (Blk5.mk HB_X.out).all
  obtain ⟨⟨z_Y, c_Y_0, c_Y_1, c_Y_2, c_Y_3, c_Y_4⟩, _⟩ := (Blk5.mk HB_Y.out).all
  go_wp2_with fail
  refine (HRP.out _).mono ?_
  rintro e w3 ⟨rfl, hg⟩
  have HB_X := Lib.hid (blockN (((Chg.refl Non _).alloc _).then_non hg) HB_X.out)
  have HB_Y := Lib.hid (blockN (((Chg.refl Non _).alloc _).then_non hg) HB_Y.out)
  have HB_Z := Lib.hid (blockN hg (al_1_0 _ _))
  have HG : Hid (Chg Non w w3) := Lib.hid (((HG.out).alloc _).then_non hg)
  clear hg z_X c_X_0 c_X_1 c_X_2 c_X_3 c_X_4 z_Y c_Y_0 c_Y_1 c_Y_2 c_Y_3 c_Y_4
  obtain ⟨⟨z_X, c_X_0, c_X_1, c_X_2, c_X_3, c_X_4⟩, _⟩ := (Blk5.mk HB_X.out).all
  obtain ⟨⟨z_Y, c_Y_0, c_Y_1, c_Y_2, c_Y_3, c_Y_4⟩, _⟩ := (Blk5.mk HB_Y.out).all
  obtain ⟨⟨z_Z, c_Z_0, c_Z_1, c_Z_2, c_Z_3, c_Z_4⟩, _⟩ := (Blk5.mk HB_Z.out).all
  go_wp2_with fail
  clear z_X c_X_0 c_X_1 c_X_2 c_X_3 c_X_4 z_Y c_Y_0 c_Y_1 c_Y_2 c_Y_3 c_Y_4 z_Z c_Z_0 c_Z_1 c_Z_2 c_Z_3 c_Z_4
  refine wp_region_held_drew (S := fun v => Chg Non (w3.alloc (.cells #[.int .u8 zo, .int .u8 za, .int .u8 zb, .int .u8 zc, .int .i64 zn] 23)) v) (by kernel_rfl) ((Chg.refl Non _).drew) (fun hHeld => ?_)
  clear hHeld
  refine h_load 0 (some 49) 25 (.tmp 7) (w.heap.size + 1) 0 #[.int .u8 op, .int .u8 a, .int .u8 b, .int .u8 c, .int .i64 n] _ rfl (by kernel_rfl) (by kernel_rfl) (by kernel_rfl) (by kernel_rfl) (by kernel_rfl) (fun _ _ _ h => h) (by kernel_rfl) (by kernel_rfl) (fun w h => row_range (blockN (((Chg.refl Non _).alloc _).then_non h) HB_Y.out)) Tryd.underlying25 rfl info_ins ((Chg.refl _ _).drew) ?_
  simp only [Act.put, List.setIfInBounds_toArray, List.set_cons_zero, List.set_cons_succ]
  refine h_load 2 (some 51) 23 (.tmp 3) w.heap.size 0 #[.int .u8 op, .int .u8 a, .int .u8 b, .int .u8 c, .int .i64 n] _ rfl (by kernel_rfl) (by kernel_rfl) (by kernel_rfl) (by kernel_rfl) (by kernel_rfl) (fun _ _ _ h => h) (by kernel_rfl) (by kernel_rfl) (fun w h => row_range (blockN (((Chg.refl Non _).alloc _).then_non h) HB_X.out)) Tryd.underlying23 rfl info_rins ((Chg.refl _ _).drew) ?_
  simp only [Act.put, List.setIfInBounds_toArray, List.set_cons_zero, List.set_cons_succ]
  refine h_one 1 (by kernel_rfl) rfl (by kernel_rfl) ?_
  intro K hK
  go_simp
  refine (Text_v op a b c n T _ (HE.out.non ((HG.out.alloc _).drew)) HTT.out).mono ?_
  rintro e y1 ⟨rfl, hg1⟩
  have HY1 := Lib.hid (((Chg.refl Non _).drew).then_non hg1)
  clear hg1
  refine hK.out _ _ HY1.out (fun _ => ?_)
  clear hK K
  refine h_one 3 (by kernel_rfl) rfl (by kernel_rfl) ?_
  intro K hK
  go_simp
  refine (HRT.out _).mono ?_
  rintro e y2 ⟨rfl, hg2⟩
  have HY2 := Lib.hid (HY1.out.then_non hg2)
  clear hg2
  refine hK.out _ _ HY2.out (fun _ => ?_)
  clear hK K
  refine h_pure 4 (some 53) (.bool true) rfl (by kernel_rfl) (by kernel_rfl) (by kernel_rfl) (by kernel_rfl) (fun _ _ _ h => h) (by kernel_rfl) (fun w e => by go_simp) HY2.out ?_
  simp only [Act.put, List.setIfInBounds_toArray, List.set_cons_zero, List.set_cons_succ]
  refine h_pure 5 (some 54) (.bool true) rfl (by kernel_rfl) (by kernel_rfl) (by kernel_rfl) (by kernel_rfl) (fun _ _ _ h => h) (by kernel_rfl) (fun w e => by go_simp) HY2.out ?_
  simp only [Act.put, List.setIfInBounds_toArray, List.set_cons_zero, List.set_cons_succ]
  refine h_pure 6 (some 55) (.pointer (some ⟨w.heap.size, 0, none⟩)) rfl (by kernel_rfl) (by kernel_rfl) (by kernel_rfl) (by kernel_rfl) (fun _ _ _ h => h) (by kernel_rfl) (fun w e => by go_simp) HY2.out ?_
  simp only [Act.put, List.setIfInBounds_toArray, List.set_cons_zero, List.set_cons_succ]
  refine h_pure 9 (some 58) (.string ⟨N.toArray⟩) rfl (by kernel_rfl) (by kernel_rfl) (by kernel_rfl) (by kernel_rfl) (fun _ _ _ h => h) (by kernel_rfl) (fun w e => by go_simp) HY2.out ?_
  simp only [Act.put, List.setIfInBounds_toArray, List.set_cons_zero, List.set_cons_succ]
  refine h_pure 7 (some 56) (.int .u8 op) rfl (by kernel_rfl) (by kernel_rfl) (by kernel_rfl) (by kernel_rfl) (fun _ _ _ h => h) (by kernel_rfl) (fun w e => by obtain ⟨⟨_, hc0, _⟩, _⟩ := (Blk5.mk (blockN (((Chg.refl Non _).alloc _).then_non e) HB_X.out)).all; go_simp) HY2.out ?_
  simp only [Act.put, List.setIfInBounds_toArray, List.set_cons_zero, List.set_cons_succ]
  refine h_one 8 (by kernel_rfl) rfl (by kernel_rfl) ?_
  intro K hK
  go_simp
  refine (HNm.out _).mono ?_
  rintro e y3 ⟨rfl, hg3⟩
  have HY3 := Lib.hid (HY2.out.then_non hg3)
  clear hg3
  refine hK.out _ _ HY3.out (fun _ => ?_)
  clear hK K
  refine h_pure 10 (some 59) (.bool true) rfl (by kernel_rfl) (by kernel_rfl) (by kernel_rfl) (by kernel_rfl) (fun _ _ _ h => h) (by kernel_rfl) (fun w e => by go_simp) HY3.out ?_
  simp only [Act.put, List.setIfInBounds_toArray, List.set_cons_zero, List.set_cons_succ]
  refine h_pure 11 (some 60) (.bool true) rfl (by kernel_rfl) (by kernel_rfl) (by kernel_rfl) (by kernel_rfl) (fun _ _ _ h => h) (by kernel_rfl) (fun w e => by go_simp) HY3.out ?_
  simp only [Act.put, List.setIfInBounds_toArray, List.set_cons_zero, List.set_cons_succ]
  refine h_pure 12 (some 61) (.bool true) rfl (by kernel_rfl) (by kernel_rfl) (by kernel_rfl) (by kernel_rfl) (fun _ _ _ h => h) (by kernel_rfl) (fun w e => by go_simp) HY3.out ?_
  simp only [Act.put, List.setIfInBounds_toArray, List.set_cons_zero, List.set_cons_succ]
  refine h_pure 13 (some 62) (.int .i64 ez) rfl (by kernel_rfl) (by kernel_rfl) (by kernel_rfl) (by kernel_rfl) (fun _ _ _ h => h) (by kernel_rfl) (fun w e => by go_simp) HY3.out ?_
  simp only [Act.put, List.setIfInBounds_toArray, List.set_cons_zero, List.set_cons_succ]
  refine h_pure 14 (some 63) (.int .i64 ez) rfl (by kernel_rfl) (by kernel_rfl) (by kernel_rfl) (by kernel_rfl) (fun _ _ _ h => h) (by kernel_rfl) (fun w e => by go_simp) HY3.out ?_
  simp only [Act.put, List.setIfInBounds_toArray, List.set_cons_zero, List.set_cons_succ]
  refine h_pure 15 (some 64) (.bool true) rfl (by kernel_rfl) (by kernel_rfl) (by kernel_rfl) (by kernel_rfl) (fun _ _ _ h => h) (by kernel_rfl) (fun w e => by go_simp) HY3.out ?_
  simp only [Act.put, List.setIfInBounds_toArray, List.set_cons_zero, List.set_cons_succ]
  refine h_pure 16 (some 65) (.bool true) rfl (by kernel_rfl) (by kernel_rfl) (by kernel_rfl) (by kernel_rfl) (fun _ _ _ h => h) (by kernel_rfl) (fun w e => by go_simp) HY3.out ?_
  simp only [Act.put, List.setIfInBounds_toArray, List.set_cons_zero, List.set_cons_succ]
  refine h_pure 17 (some 66) (.bool true) rfl (by kernel_rfl) (by kernel_rfl) (by kernel_rfl) (by kernel_rfl) (fun _ _ _ h => h) (by kernel_rfl) (fun w e => by go_simp) HY3.out ?_
  simp only [Act.put, List.setIfInBounds_toArray, List.set_cons_zero, List.set_cons_succ]
  refine h_load 18 (some 67) 25 (.tmp 9) w2.heap.size 0 #[.int .u8 zo, .int .u8 za, .int .u8 zb, .int .u8 zc, .int .i64 zn] _ rfl (by kernel_rfl) (by kernel_rfl) (by kernel_rfl) (by kernel_rfl) (by kernel_rfl) (fun _ _ _ h => h) (by kernel_rfl) (by kernel_rfl) (fun w h => row_range (blockN (((Chg.refl Non _).alloc _).then_non h) HB_Z.out)) Tryd.underlying25 rfl info_ins HY3.out ?_
  simp only [Act.put, List.setIfInBounds_toArray, List.set_cons_zero, List.set_cons_succ]
  refine h_load 19 (some 68) 23 (.tmp 11) w3.heap.size 0 #[.int .u8 zo, .int .u8 za, .int .u8 zb, .int .u8 zc, .int .i64 zn] _ rfl (by kernel_rfl) (by kernel_rfl) (by kernel_rfl) (by kernel_rfl) (by kernel_rfl) (fun _ _ _ h => h) (by kernel_rfl) (by kernel_rfl) (fun w h => row_range (blockN h (al_1_0 _ _))) Tryd.underlying23 rfl info_rins HY3.out ?_
  simp only [Act.put, List.setIfInBounds_toArray, List.set_cons_zero, List.set_cons_succ]
  refine h_one 20 (by kernel_rfl) rfl (by kernel_rfl) ?_
  intro K hK
  go_simp
  refine (is_ok zo za zb zc zn _).mono ?_
  rintro e y4 ⟨rfl, hg4⟩
  have HY4 := Lib.hid (HY3.out.then_non hg4)
  clear hg4
  refine hK.out _ _ HY4.out (fun _ => ?_)
  clear hK K
  refine h_pure 21 (some 70) (.bool true) rfl (by kernel_rfl) (by kernel_rfl) (by kernel_rfl) (by kernel_rfl) (fun _ _ _ h => h) (by kernel_rfl) (fun w e => by go_simp) HY4.out ?_
  simp only [Act.put, List.setIfInBounds_toArray, List.set_cons_zero, List.set_cons_succ]
  refine h_pure 22 (some 71) (.bool true) rfl (by kernel_rfl) (by kernel_rfl) (by kernel_rfl) (by kernel_rfl) (fun _ _ _ h => h) (by kernel_rfl) (fun w e => by go_simp) HY4.out ?_
  simp only [Act.put, List.setIfInBounds_toArray, List.set_cons_zero, List.set_cons_succ]
  refine h_one 23 (by kernel_rfl) rfl (by kernel_rfl) ?_
  intro K hK
  go_simp
  refine (iawake_ok _ (HE.out.non ((HG.out.alloc _).then_non HY4.out))).mono ?_
  rintro e y5 ⟨rfl, hg5⟩
  have HY5 := Lib.hid (HY4.out.then_non hg5)
  clear hg5
  refine hK.out _ _ HY5.out (fun _ => ?_)
  clear hK K
  refine h_pure 24 (some 73) (.bool true) rfl (by kernel_rfl) (by kernel_rfl) (by kernel_rfl) (by kernel_rfl) (fun _ _ _ h => h) (by kernel_rfl) (fun w e => by go_simp) HY5.out ?_
  simp only [Act.put, List.setIfInBounds_toArray, List.set_cons_zero, List.set_cons_succ]
  refine h_pure 25 (some 6) (.bool true) rfl (by kernel_rfl) (by kernel_rfl) (by kernel_rfl) (by kernel_rfl) (fun _ _ _ h => h) (by kernel_rfl) (fun w e => by go_simp) HY5.out ?_
  simp only [Act.put, List.setIfInBounds_toArray, List.set_cons_zero, List.set_cons_succ]
  refine wpAnyH_done (by kernel_rfl) ?_ _
  go_wp2_with fail
  go_ret
  exact ⟨rfl, (HG.out.alloc _).then_non HY5.out⟩
set_option maxRecDepth 100000 in
theorem texts_long (X : Value) (hX : ∃ c, X = .agg c) (l : List UInt8) (q : Bool) (w : World) (hl : 100 < l.length) :
    Calls Tryd.prog 4 #[X, .string ⟨l.toArray⟩, .bool q] w fun e w' => e = .returned (.bool true) ∧ Chg Non w w' := by
  obtain ⟨c, rfl⟩ := hX
  have hb100 : decide ((l.length : Int) > 100) = true := by simp; omega
  go_enter Tryd.func4, Tryd.ntmps4
  go_wp2_with fail
  go_ret
  exact ⟨rfl, (Chg.refl Non _).alloc _⟩
theorem IsaTexts_ok (op a b c : Nat) (n : Int) (l : List UInt8) (q : Bool) (w : World) (hE : Env w) (hx : Ins.Bd ⟨op, a, b, c, n⟩) :
    Calls Tryd.prog 4 #[.agg #[.int .u8 op, .int .u8 a, .int .u8 b, .int .u8 c, .int .i64 n], .string ⟨l.toArray⟩, .bool q] w fun e w' => e = .returned (.bool true) ∧ Chg Non w w' := by
  rcases Nat.lt_or_ge 100 l.length with h | h
  · exact texts_long _ ⟨_, rfl⟩ l q w h
  · by_cases hk : kdAt op = .no <;> cases q
    · exact texts_01 op a b c n l w hE hx h hk
    · exact texts_11 op a b c n l w hE hx h hk
    · exact texts_00 op a b c n l w hE hx h hk
    · exact texts_10 op a b c n l w hE hx h hk
end Go.Proofs.YtpcmnphohneddaaDoor
