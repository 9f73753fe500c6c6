/- Walk of citadellaw19.IsaBack. (Written by wip/gen_isaback.py.) -/
import Derived.Test.YtpcmnphohneddaaDoorIsa12
namespace Go.Proofs.YtpcmnphohneddaaDoor
open Go.RowKit
set_option linter.unusedVariables false

set_option maxRecDepth 100000 in
set_option maxHeartbeats 4000000 in
theorem back_111 (op a b c : Nat) (n : Int) (p q r s : Nat) (l : List UInt8) (w : World) (hE : Env w) (hx : Ins.Bd ⟨op, a, b, c, n⟩) (hf : Four (p, q, r, s)) (hl : l.length ≤ 100) (hm : mayB ⟨op, a, b, c, n⟩ = true) (hd : mayB (decI p q r s) = true) (y : Ins) (hp : parseC l = some y) :
    Calls Tryd.prog 6 #[.int .u8 op, .int .u8 a, .int .u8 b, .int .u8 c, .int .i64 n, .agg #[.int .u8 p, .int .u8 q, .int .u8 r, .int .u8 s], .string ⟨l.toArray⟩] w fun e w' => e = .returned (.bool true) ∧ Chg Non w w' := by
  have HE := Lib.hid hE
  have hlen : decide ((l.length : Int) > 100) = false := by simp; omega
  have hlm : l.length < 1000000 := by omega
  have HX := Lib.hid hx
  have HF := Lib.hid hf
  have HM := Lib.hid hm
  have HP := Lib.hid hp
  have HD := Lib.hid hd
  clear hE hx hf hm hp hd hl
  obtain ⟨⟨e1, e2, e3, e4⟩, he⟩ : ∃ f, encI ⟨op, a, b, c, n⟩ = f := ⟨_, rfl⟩
  have HEn := Lib.hid he
  have HFo := Lib.hid (enc_four HM.out he)
  clear he
  obtain ⟨tx, htx⟩ : ∃ t, textL ⟨op, a, b, c, n⟩ = t := ⟨_, rfl⟩
  have HTx := Lib.hid htx
  have hxt : tx.length < 1000000 := by rw [← htx]; exact textL_len _
  have HPt : Hid (parseC tx = some ⟨op, a, b, c, n⟩) := Lib.hid (by rw [← htx]; exact parseC_text HM.out)
  clear htx
  have heq := ins_eq op a b c n HX.out
  obtain ⟨⟨op2, a2, b2, c2, n2⟩, hd2⟩ : ∃ y, decI p q r s = y := ⟨_, rfl⟩
  rw [hd2] at HD
  have HD2 := Lib.hid hd2
  have HE2 : Hid (encI ⟨op2, a2, b2, c2, n2⟩ = (p, q, r, s)) := Lib.hid (by rw [← hd2]; exact enc_dec p q r s HF.out.1 HF.out.2.1 HF.out.2.2.1 HF.out.2.2.2)
  clear hd2
  have heq4 := four_eq p q r s HF.out
  obtain ⟨op3, a3, b3, c3, n3⟩ := y
  have HT3 := Lib.hid (parseC_some HP.out)
  have hss : (l == l) = true := by simp
  go_enter Tryd.func6, Tryd.ntmps6
  go_wp2_with fail
  refine (May_v op a b c n true _ HM.out).mono ?_
  rintro e w1 ⟨rfl, hg⟩
  have HB_F := Lib.hid (blockN hg (al_2_0 _ _ _))
  have HB_X := Lib.hid (blockN hg (al_2_1 _ _ _))
  have HG : Hid (Chg Non w w1) := Lib.hid ((((Chg.refl Non w).alloc _).alloc _).then_non hg)
  clear hg
  obtain ⟨⟨z_F, c_F_0, c_F_1, c_F_2, c_F_3⟩, _⟩ := (Blk4.mk HB_F.out).all
  obtain ⟨⟨z_X, c_X_0, c_X_1, c_X_2, c_X_3, c_X_4⟩, _⟩ := (Blk5.mk HB_X.out).all
  go_wp2_with fail
  refine (Enc_v op a b c n e1 e2 e3 e4 _ HM.out HEn.out).mono ?_
  rintro e w2 ⟨rfl, hg⟩
  have HB_F := Lib.hid (blockN ((Chg.refl Non _).then_non hg) HB_F.out)
  have HB_X := Lib.hid (blockN ((Chg.refl Non _).then_non hg) HB_X.out)
  have HG : Hid (Chg Non w w2) := Lib.hid ((HG.out).then_non hg)
  clear hg z_F c_F_0 c_F_1 c_F_2 c_F_3 z_X c_X_0 c_X_1 c_X_2 c_X_3 c_X_4
  obtain ⟨⟨z_F, c_F_0, c_F_1, c_F_2, c_F_3⟩, _⟩ := (Blk4.mk HB_F.out).all
  obtain ⟨⟨z_X, c_X_0, c_X_1, c_X_2, c_X_3, c_X_4⟩, _⟩ := (Blk5.mk HB_X.out).all
  go_wp2_with fail
  refine (Dec_v e1 e2 e3 e4 op a b c n _ HFo.out.1 HFo.out.2 HM.out).mono ?_
  rintro e w3 ⟨rfl, hg⟩
  have HB_F := Lib.hid (blockN (((Chg.refl Non _).alloc _).then_non hg) HB_F.out)
  have HB_X := Lib.hid (blockN (((Chg.refl Non _).alloc _).then_non hg) HB_X.out)
  have HB_B := Lib.hid (blockN hg (al_1_0 _ _))
  have HG : Hid (Chg Non w w3) := Lib.hid (((HG.out).alloc _).then_non hg)
  clear hg z_F c_F_0 c_F_1 c_F_2 c_F_3 z_X c_X_0 c_X_1 c_X_2 c_X_3 c_X_4
  obtain ⟨⟨z_F, c_F_0, c_F_1, c_F_2, c_F_3⟩, _⟩ := (Blk4.mk HB_F.out).all
  obtain ⟨⟨z_X, c_X_0, c_X_1, c_X_2, c_X_3, c_X_4⟩, _⟩ := (Blk5.mk HB_X.out).all
  obtain ⟨⟨z_B, c_B_0, c_B_1, c_B_2, c_B_3⟩, _⟩ := (Blk4.mk HB_B.out).all
  go_wp2_with fail
  refine (Text_v op a b c n tx _ (HE.out.non ((HG.out).alloc _)) HTx.out).mono ?_
  rintro e w4 ⟨rfl, hg⟩
  have HB_F := Lib.hid (blockN (((Chg.refl Non _).alloc _).then_non hg) HB_F.out)
  have HB_X := Lib.hid (blockN (((Chg.refl Non _).alloc _).then_non hg) HB_X.out)
  have HB_B := Lib.hid (blockN (((Chg.refl Non _).alloc _).then_non hg) HB_B.out)
  have HB_Y := Lib.hid (blockN hg (al_1_0 _ _))
  have HG : Hid (Chg Non w w4) := Lib.hid (((HG.out).alloc _).then_non hg)
  clear hg z_F c_F_0 c_F_1 c_F_2 c_F_3 z_X c_X_0 c_X_1 c_X_2 c_X_3 c_X_4 z_B c_B_0 c_B_1 c_B_2 c_B_3
  obtain ⟨⟨z_F, c_F_0, c_F_1, c_F_2, c_F_3⟩, _⟩ := (Blk4.mk HB_F.out).all
  obtain ⟨⟨z_X, c_X_0, c_X_1, c_X_2, c_X_3, c_X_4⟩, _⟩ := (Blk5.mk HB_X.out).all
  obtain ⟨⟨z_B, c_B_0, c_B_1, c_B_2, c_B_3⟩, _⟩ := (Blk4.mk HB_B.out).all
  obtain ⟨⟨z_Y, c_Y_0, c_Y_1, c_Y_2, c_Y_3, c_Y_4⟩, _⟩ := (Blk5.mk HB_Y.out).all
  go_wp2_with fail
  refine (Parse_v tx op a b c n _ (HE.out.non HG.out) hxt HPt.out).mono ?_
  rintro e w5 ⟨rfl, hg⟩
  have HB_F := Lib.hid (blockN ((Chg.refl Non _).then_non hg) HB_F.out)
  have HB_X := Lib.hid (blockN ((Chg.refl Non _).then_non hg) HB_X.out)
  have HB_B := Lib.hid (blockN ((Chg.refl Non _).then_non hg) HB_B.out)
  have HB_Y := Lib.hid (blockN ((Chg.refl Non _).then_non hg) HB_Y.out)
  have HG : Hid (Chg Non w w5) := Lib.hid ((HG.out).then_non hg)
  clear hg z_F c_F_0 c_F_1 c_F_2 c_F_3 z_X c_X_0 c_X_1 c_X_2 c_X_3 c_X_4 z_B c_B_0 c_B_1 c_B_2 c_B_3 z_Y c_Y_0 c_Y_1 c_Y_2 c_Y_3 c_Y_4
  obtain ⟨⟨z_F, c_F_0, c_F_1, c_F_2, c_F_3⟩, _⟩ := (Blk4.mk HB_F.out).all
  obtain ⟨⟨z_X, c_X_0, c_X_1, c_X_2, c_X_3, c_X_4⟩, _⟩ := (Blk5.mk HB_X.out).all
  obtain ⟨⟨z_B, c_B_0, c_B_1, c_B_2, c_B_3⟩, _⟩ := (Blk4.mk HB_B.out).all
  obtain ⟨⟨z_Y, c_Y_0, c_Y_1, c_Y_2, c_Y_3, c_Y_4⟩, _⟩ := (Blk5.mk HB_Y.out).all
  go_wp2_with fail
  refine (Dec_v p q r s op2 a2 b2 c2 n2 _ HF.out HD2.out HD.out).mono ?_
  rintro e w6 ⟨rfl, hg⟩
  have HB_F := Lib.hid (blockN (((Chg.refl Non _).alloc _).then_non hg) HB_F.out)
  have HB_X := Lib.hid (blockN (((Chg.refl Non _).alloc _).then_non hg) HB_X.out)
  have HB_B := Lib.hid (blockN (((Chg.refl Non _).alloc _).then_non hg) HB_B.out)
  have HB_Y := Lib.hid (blockN (((Chg.refl Non _).alloc _).then_non hg) HB_Y.out)
  have HB_Z := Lib.hid (blockN hg (al_1_0 _ _))
  have HG : Hid (Chg Non w w6) := Lib.hid (((HG.out).alloc _).then_non hg)
  clear hg z_F c_F_0 c_F_1 c_F_2 c_F_3 z_X c_X_0 c_X_1 c_X_2 c_X_3 c_X_4 z_B c_B_0 c_B_1 c_B_2 c_B_3 z_Y c_Y_0 c_Y_1 c_Y_2 c_Y_3 c_Y_4
  obtain ⟨⟨z_F, c_F_0, c_F_1, c_F_2, c_F_3⟩, _⟩ := (Blk4.mk HB_F.out).all
  obtain ⟨⟨z_X, c_X_0, c_X_1, c_X_2, c_X_3, c_X_4⟩, _⟩ := (Blk5.mk HB_X.out).all
  obtain ⟨⟨z_B, c_B_0, c_B_1, c_B_2, c_B_3⟩, _⟩ := (Blk4.mk HB_B.out).all
  obtain ⟨⟨z_Y, c_Y_0, c_Y_1, c_Y_2, c_Y_3, c_Y_4⟩, _⟩ := (Blk5.mk HB_Y.out).all
  obtain ⟨⟨z_Z, c_Z_0, c_Z_1, c_Z_2, c_Z_3, c_Z_4⟩, _⟩ := (Blk5.mk HB_Z.out).all
  go_wp2_with fail
  refine (Enc_v op2 a2 b2 c2 n2 p q r s _ HD.out HE2.out).mono ?_
  rintro e w7 ⟨rfl, hg⟩
  have HB_F := Lib.hid (blockN (((Chg.refl Non _).alloc _).then_non hg) HB_F.out)
  have HB_X := Lib.hid (blockN (((Chg.refl Non _).alloc _).then_non hg) HB_X.out)
  have HB_B := Lib.hid (blockN (((Chg.refl Non _).alloc _).then_non hg) HB_B.out)
  have HB_Y := Lib.hid (blockN (((Chg.refl Non _).alloc _).then_non hg) HB_Y.out)
  have HB_Z := Lib.hid (blockN (((Chg.refl Non _).alloc _).then_non hg) HB_Z.out)
  have HB_U := Lib.hid (blockN hg (al_1_0 _ _))
  have HG : Hid (Chg Non w w7) := Lib.hid (((HG.out).alloc _).then_non hg)
  clear hg z_F c_F_0 c_F_1 c_F_2 c_F_3 z_X c_X_0 c_X_1 c_X_2 c_X_3 c_X_4 z_B c_B_0 c_B_1 c_B_2 c_B_3 z_Y c_Y_0 c_Y_1 c_Y_2 c_Y_3 c_Y_4 z_Z c_Z_0 c_Z_1 c_Z_2 c_Z_3 c_Z_4
  obtain ⟨⟨z_F, c_F_0, c_F_1, c_F_2, c_F_3⟩, _⟩ := (Blk4.mk HB_F.out).all
  obtain ⟨⟨z_X, c_X_0, c_X_1, c_X_2, c_X_3, c_X_4⟩, _⟩ := (Blk5.mk HB_X.out).all
  obtain ⟨⟨z_B, c_B_0, c_B_1, c_B_2, c_B_3⟩, _⟩ := (Blk4.mk HB_B.out).all
  obtain ⟨⟨z_Y, c_Y_0, c_Y_1, c_Y_2, c_Y_3, c_Y_4⟩, _⟩ := (Blk5.mk HB_Y.out).all
  obtain ⟨⟨z_Z, c_Z_0, c_Z_1, c_Z_2, c_Z_3, c_Z_4⟩, _⟩ := (Blk5.mk HB_Z.out).all
  obtain ⟨⟨z_U, c_U_0, c_U_1, c_U_2, c_U_3, c_U_4⟩, _⟩ := (Blk5.mk HB_U.out).all
  go_wp2_with fail
  refine (May_v op2 a2 b2 c2 n2 true _ HD.out).mono ?_
  rintro e w8 ⟨rfl, hg⟩
  have HB_F := Lib.hid (blockN (((Chg.refl Non _).alloc _).then_non hg) HB_F.out)
  have HB_X := Lib.hid (blockN (((Chg.refl Non _).alloc _).then_non hg) HB_X.out)
  have HB_B := Lib.hid (blockN (((Chg.refl Non _).alloc _).then_non hg) HB_B.out)
  have HB_Y := Lib.hid (blockN (((Chg.refl Non _).alloc _).then_non hg) HB_Y.out)
  have HB_Z := Lib.hid (blockN (((Chg.refl Non _).alloc _).then_non hg) HB_Z.out)
  have HB_U := Lib.hid (blockN (((Chg.refl Non _).alloc _).then_non hg) HB_U.out)
  have HB_V := Lib.hid (blockN hg (al_1_0 _ _))
  have HG : Hid (Chg Non w w8) := Lib.hid (((HG.out).alloc _).then_non hg)
  clear hg z_F c_F_0 c_F_1 c_F_2 c_F_3 z_X c_X_0 c_X_1 c_X_2 c_X_3 c_X_4 z_B c_B_0 c_B_1 c_B_2 c_B_3 z_Y c_Y_0 c_Y_1 c_Y_2 c_Y_3 c_Y_4 z_Z c_Z_0 c_Z_1 c_Z_2 c_Z_3 c_Z_4 z_U c_U_0 c_U_1 c_U_2 c_U_3 c_U_4
  obtain ⟨⟨z_F, c_F_0, c_F_1, c_F_2, c_F_3⟩, _⟩ := (Blk4.mk HB_F.out).all
  obtain ⟨⟨z_X, c_X_0, c_X_1, c_X_2, c_X_3, c_X_4⟩, _⟩ := (Blk5.mk HB_X.out).all
  obtain ⟨⟨z_B, c_B_0, c_B_1, c_B_2, c_B_3⟩, _⟩ := (Blk4.mk HB_B.out).all
  obtain ⟨⟨z_Y, c_Y_0, c_Y_1, c_Y_2, c_Y_3, c_Y_4⟩, _⟩ := (Blk5.mk HB_Y.out).all
  obtain ⟨⟨z_Z, c_Z_0, c_Z_1, c_Z_2, c_Z_3, c_Z_4⟩, _⟩ := (Blk5.mk HB_Z.out).all
  obtain ⟨⟨z_U, c_U_0, c_U_1, c_U_2, c_U_3, c_U_4⟩, _⟩ := (Blk5.mk HB_U.out).all
  obtain ⟨⟨z_V, c_V_0, c_V_1, c_V_2, c_V_3⟩, _⟩ := (Blk4.mk HB_V.out).all
  go_wp2_with fail
  refine (Parse_v l op3 a3 b3 c3 n3 _ (HE.out.non (HG.out)) hlm HP.out).mono ?_
  rintro e w9 ⟨rfl, hg⟩
  have HB_F := Lib.hid (blockN ((Chg.refl Non _).then_non hg) HB_F.out)
  have HB_X := Lib.hid (blockN ((Chg.refl Non _).then_non hg) HB_X.out)
  have HB_B := Lib.hid (blockN ((Chg.refl Non _).then_non hg) HB_B.out)
  have HB_Y := Lib.hid (blockN ((Chg.refl Non _).then_non hg) HB_Y.out)
  have HB_Z := Lib.hid (blockN ((Chg.refl Non _).then_non hg) HB_Z.out)
  have HB_U := Lib.hid (blockN ((Chg.refl Non _).then_non hg) HB_U.out)
  have HB_V := Lib.hid (blockN ((Chg.refl Non _).then_non hg) HB_V.out)
  have HG : Hid (Chg Non w w9) := Lib.hid ((HG.out).then_non hg)
  clear hg z_F c_F_0 c_F_1 c_F_2 c_F_3 z_X c_X_0 c_X_1 c_X_2 c_X_3 c_X_4 z_B c_B_0 c_B_1 c_B_2 c_B_3 z_Y c_Y_0 c_Y_1 c_Y_2 c_Y_3 c_Y_4 z_Z c_Z_0 c_Z_1 c_Z_2 c_Z_3 c_Z_4 z_U c_U_0 c_U_1 c_U_2 c_U_3 c_U_4 z_V c_V_0 c_V_1 c_V_2 c_V_3
  obtain ⟨⟨z_F, c_F_0, c_F_1, c_F_2, c_F_3⟩, _⟩ := (Blk4.mk HB_F.out).all
  obtain ⟨⟨z_X, c_X_0, c_X_1, c_X_2, c_X_3, c_X_4⟩, _⟩ := (Blk5.mk HB_X.out).all
  obtain ⟨⟨z_B, c_B_0, c_B_1, c_B_2, c_B_3⟩, _⟩ := (Blk4.mk HB_B.out).all
  obtain ⟨⟨z_Y, c_Y_0, c_Y_1, c_Y_2, c_Y_3, c_Y_4⟩, _⟩ := (Blk5.mk HB_Y.out).all
  obtain ⟨⟨z_Z, c_Z_0, c_Z_1, c_Z_2, c_Z_3, c_Z_4⟩, _⟩ := (Blk5.mk HB_Z.out).all
  obtain ⟨⟨z_U, c_U_0, c_U_1, c_U_2, c_U_3, c_U_4⟩, _⟩ := (Blk5.mk HB_U.out).all
  obtain ⟨⟨z_V, c_V_0, c_V_1, c_V_2, c_V_3⟩, _⟩ := (Blk4.mk HB_V.out).all
  go_wp2_with fail
  refine (Text_v op3 a3 b3 c3 n3 l _ (HE.out.non ((HG.out).alloc _)) HT3.out.2).mono ?_
  rintro e w10 ⟨rfl, hg⟩
  have HB_F := Lib.hid (blockN (((Chg.refl Non _).alloc _).then_non hg) HB_F.out)
  have HB_X := Lib.hid (blockN (((Chg.refl Non _).alloc _).then_non hg) HB_X.out)
  have HB_B := Lib.hid (blockN (((Chg.refl Non _).alloc _).then_non hg) HB_B.out)
  have HB_Y := Lib.hid (blockN (((Chg.refl Non _).alloc _).then_non hg) HB_Y.out)
  have HB_Z := Lib.hid (blockN (((Chg.refl Non _).alloc _).then_non hg) HB_Z.out)
  have HB_U := Lib.hid (blockN (((Chg.refl Non _).alloc _).then_non hg) HB_U.out)
  have HB_V := Lib.hid (blockN (((Chg.refl Non _).alloc _).then_non hg) HB_V.out)
  have HB_Q := Lib.hid (blockN hg (al_1_0 _ _))
  have HG : Hid (Chg Non w w10) := Lib.hid (((HG.out).alloc _).then_non hg)
  clear hg z_F c_F_0 c_F_1 c_F_2 c_F_3 z_X c_X_0 c_X_1 c_X_2 c_X_3 c_X_4 z_B c_B_0 c_B_1 c_B_2 c_B_3 z_Y c_Y_0 c_Y_1 c_Y_2 c_Y_3 c_Y_4 z_Z c_Z_0 c_Z_1 c_Z_2 c_Z_3 c_Z_4 z_U c_U_0 c_U_1 c_U_2 c_U_3 c_U_4 z_V c_V_0 c_V_1 c_V_2 c_V_3
  obtain ⟨⟨z_F, c_F_0, c_F_1, c_F_2, c_F_3⟩, _⟩ := (Blk4.mk HB_F.out).all
  obtain ⟨⟨z_X, c_X_0, c_X_1, c_X_2, c_X_3, c_X_4⟩, _⟩ := (Blk5.mk HB_X.out).all
  obtain ⟨⟨z_B, c_B_0, c_B_1, c_B_2, c_B_3⟩, _⟩ := (Blk4.mk HB_B.out).all
  obtain ⟨⟨z_Y, c_Y_0, c_Y_1, c_Y_2, c_Y_3, c_Y_4⟩, _⟩ := (Blk5.mk HB_Y.out).all
  obtain ⟨⟨z_Z, c_Z_0, c_Z_1, c_Z_2, c_Z_3, c_Z_4⟩, _⟩ := (Blk5.mk HB_Z.out).all
  obtain ⟨⟨z_U, c_U_0, c_U_1, c_U_2, c_U_3, c_U_4⟩, _⟩ := (Blk5.mk HB_U.out).all
  obtain ⟨⟨z_V, c_V_0, c_V_1, c_V_2, c_V_3⟩, _⟩ := (Blk4.mk HB_V.out).all
  obtain ⟨⟨z_Q, c_Q_0, c_Q_1, c_Q_2, c_Q_3, c_Q_4⟩, _⟩ := (Blk5.mk HB_Q.out).all
  go_wp2_with fail
  refine (May_v op3 a3 b3 c3 n3 true _ HT3.out.1).mono ?_
  rintro e w11 ⟨rfl, hg⟩
  have HB_F := Lib.hid (blockN ((Chg.refl Non _).then_non hg) HB_F.out)
  have HB_X := Lib.hid (blockN ((Chg.refl Non _).then_non hg) HB_X.out)
  have HB_B := Lib.hid (blockN ((Chg.refl Non _).then_non hg) HB_B.out)
  have HB_Y := Lib.hid (blockN ((Chg.refl Non _).then_non hg) HB_Y.out)
  have HB_Z := Lib.hid (blockN ((Chg.refl Non _).then_non hg) HB_Z.out)
  have HB_U := Lib.hid (blockN ((Chg.refl Non _).then_non hg) HB_U.out)
  have HB_V := Lib.hid (blockN ((Chg.refl Non _).then_non hg) HB_V.out)
  have HB_Q := Lib.hid (blockN ((Chg.refl Non _).then_non hg) HB_Q.out)
  have HG : Hid (Chg Non w w11) := Lib.hid ((HG.out).then_non hg)
  clear hg z_F c_F_0 c_F_1 c_F_2 c_F_3 z_X c_X_0 c_X_1 c_X_2 c_X_3 c_X_4 z_B c_B_0 c_B_1 c_B_2 c_B_3 z_Y c_Y_0 c_Y_1 c_Y_2 c_Y_3 c_Y_4 z_Z c_Z_0 c_Z_1 c_Z_2 c_Z_3 c_Z_4 z_U c_U_0 c_U_1 c_U_2 c_U_3 c_U_4 z_V c_V_0 c_V_1 c_V_2 c_V_3 z_Q c_Q_0 c_Q_1 c_Q_2 c_Q_3 c_Q_4
  obtain ⟨⟨z_F, c_F_0, c_F_1, c_F_2, c_F_3⟩, _⟩ := (Blk4.mk HB_F.out).all
  obtain ⟨⟨z_X, c_X_0, c_X_1, c_X_2, c_X_3, c_X_4⟩, _⟩ := (Blk5.mk HB_X.out).all
  obtain ⟨⟨z_B, c_B_0, c_B_1, c_B_2, c_B_3⟩, _⟩ := (Blk4.mk HB_B.out).all
  obtain ⟨⟨z_Y, c_Y_0, c_Y_1, c_Y_2, c_Y_3, c_Y_4⟩, _⟩ := (Blk5.mk HB_Y.out).all
  obtain ⟨⟨z_Z, c_Z_0, c_Z_1, c_Z_2, c_Z_3, c_Z_4⟩, _⟩ := (Blk5.mk HB_Z.out).all
  obtain ⟨⟨z_U, c_U_0, c_U_1, c_U_2, c_U_3, c_U_4⟩, _⟩ := (Blk5.mk HB_U.out).all
  obtain ⟨⟨z_V, c_V_0, c_V_1, c_V_2, c_V_3⟩, _⟩ := (Blk4.mk HB_V.out).all
  obtain ⟨⟨z_Q, c_Q_0, c_Q_1, c_Q_2, c_Q_3, c_Q_4⟩, _⟩ := (Blk5.mk HB_Q.out).all
  go_wp2_with fail
  refine (iawake_ok _ (HE.out.non (HG.out))).mono ?_
  rintro e w12 ⟨rfl, hg⟩
  have HB_F := Lib.hid (blockN ((Chg.refl Non _).then_non hg) HB_F.out)
  have HB_X := Lib.hid (blockN ((Chg.refl Non _).then_non hg) HB_X.out)
  have HB_B := Lib.hid (blockN ((Chg.refl Non _).then_non hg) HB_B.out)
  have HB_Y := Lib.hid (blockN ((Chg.refl Non _).then_non hg) HB_Y.out)
  have HB_Z := Lib.hid (blockN ((Chg.refl Non _).then_non hg) HB_Z.out)
  have HB_U := Lib.hid (blockN ((Chg.refl Non _).then_non hg) HB_U.out)
  have HB_V := Lib.hid (blockN ((Chg.refl Non _).then_non hg) HB_V.out)
  have HB_Q := Lib.hid (blockN ((Chg.refl Non _).then_non hg) HB_Q.out)
  have HG : Hid (Chg Non w w12) := Lib.hid ((HG.out).then_non hg)
  clear hg z_F c_F_0 c_F_1 c_F_2 c_F_3 z_X c_X_0 c_X_1 c_X_2 c_X_3 c_X_4 z_B c_B_0 c_B_1 c_B_2 c_B_3 z_Y c_Y_0 c_Y_1 c_Y_2 c_Y_3 c_Y_4 z_Z c_Z_0 c_Z_1 c_Z_2 c_Z_3 c_Z_4 z_U c_U_0 c_U_1 c_U_2 c_U_3 c_U_4 z_V c_V_0 c_V_1 c_V_2 c_V_3 z_Q c_Q_0 c_Q_1 c_Q_2 c_Q_3 c_Q_4
  obtain ⟨⟨z_F, c_F_0, c_F_1, c_F_2, c_F_3⟩, _⟩ := (Blk4.mk HB_F.out).all
  obtain ⟨⟨z_X, c_X_0, c_X_1, c_X_2, c_X_3, c_X_4⟩, _⟩ := (Blk5.mk HB_X.out).all
  obtain ⟨⟨z_B, c_B_0, c_B_1, c_B_2, c_B_3⟩, _⟩ := (Blk4.mk HB_B.out).all
  obtain ⟨⟨z_Y, c_Y_0, c_Y_1, c_Y_2, c_Y_3, c_Y_4⟩, _⟩ := (Blk5.mk HB_Y.out).all
  obtain ⟨⟨z_Z, c_Z_0, c_Z_1, c_Z_2, c_Z_3, c_Z_4⟩, _⟩ := (Blk5.mk HB_Z.out).all
  obtain ⟨⟨z_U, c_U_0, c_U_1, c_U_2, c_U_3, c_U_4⟩, _⟩ := (Blk5.mk HB_U.out).all
  obtain ⟨⟨z_V, c_V_0, c_V_1, c_V_2, c_V_3⟩, _⟩ := (Blk4.mk HB_V.out).all
  obtain ⟨⟨z_Q, c_Q_0, c_Q_1, c_Q_2, c_Q_3, c_Q_4⟩, _⟩ := (Blk5.mk HB_Q.out).all
  go_wp2_with fail
  go_ret
  exact ⟨rfl, HG.out⟩

set_option maxRecDepth 100000 in
set_option maxHeartbeats 4000000 in
theorem back_110 (op a b c : Nat) (n : Int) (p q r s : Nat) (l : List UInt8) (w : World) (hE : Env w) (hx : Ins.Bd ⟨op, a, b, c, n⟩) (hf : Four (p, q, r, s)) (hl : l.length ≤ 100) (hm : mayB ⟨op, a, b, c, n⟩ = true) (hd : mayB (decI p q r s) = true) (hp : parseC l = none) :
    Calls Tryd.prog 6 #[.int .u8 op, .int .u8 a, .int .u8 b, .int .u8 c, .int .i64 n, .agg #[.int .u8 p, .int .u8 q, .int .u8 r, .int .u8 s], .string ⟨l.toArray⟩] w fun e w' => e = .returned (.bool true) ∧ Chg Non w w' := by
  have HE := Lib.hid hE
  have hlen : decide ((l.length : Int) > 100) = false := by simp; omega
  have hlm : l.length < 1000000 := by omega
  have HX := Lib.hid hx
  have HF := Lib.hid hf
  have HM := Lib.hid hm
  have HP := Lib.hid hp
  have HD := Lib.hid hd
  clear hE hx hf hm hp hd hl
  obtain ⟨⟨e1, e2, e3, e4⟩, he⟩ : ∃ f, encI ⟨op, a, b, c, n⟩ = f := ⟨_, rfl⟩
  have HEn := Lib.hid he
  have HFo := Lib.hid (enc_four HM.out he)
  clear he
  obtain ⟨tx, htx⟩ : ∃ t, textL ⟨op, a, b, c, n⟩ = t := ⟨_, rfl⟩
  have HTx := Lib.hid htx
  have hxt : tx.length < 1000000 := by rw [← htx]; exact textL_len _
  have HPt : Hid (parseC tx = some ⟨op, a, b, c, n⟩) := Lib.hid (by rw [← htx]; exact parseC_text HM.out)
  clear htx
  have heq := ins_eq op a b c n HX.out
  obtain ⟨⟨op2, a2, b2, c2, n2⟩, hd2⟩ : ∃ y, decI p q r s = y := ⟨_, rfl⟩
  rw [hd2] at HD
  have HD2 := Lib.hid hd2
  have HE2 : Hid (encI ⟨op2, a2, b2, c2, n2⟩ = (p, q, r, s)) := Lib.hid (by rw [← hd2]; exact enc_dec p q r s HF.out.1 HF.out.2.1 HF.out.2.2.1 HF.out.2.2.2)
  clear hd2
  have heq4 := four_eq p q r s HF.out
  go_enter Tryd.func6, Tryd.ntmps6
  go_wp2_with fail
  refine (May_v op a b c n true _ HM.out).mono ?_
  rintro e w1 ⟨rfl, hg⟩
  have HB_F := Lib.hid (blockN hg (al_2_0 _ _ _))
  have HB_X := Lib.hid (blockN hg (al_2_1 _ _ _))
  have HG : Hid (Chg Non w w1) := Lib.hid ((((Chg.refl Non w).alloc _).alloc _).then_non hg)
  clear hg
  obtain ⟨⟨z_F, c_F_0, c_F_1, c_F_2, c_F_3⟩, _⟩ := (Blk4.mk HB_F.out).all
  obtain ⟨⟨z_X, c_X_0, c_X_1, c_X_2, c_X_3, c_X_4⟩, _⟩ := (Blk5.mk HB_X.out).all
  go_wp2_with fail
  refine (Enc_v op a b c n e1 e2 e3 e4 _ HM.out HEn.out).mono ?_
  rintro e w2 ⟨rfl, hg⟩
  have HB_F := Lib.hid (blockN ((Chg.refl Non _).then_non hg) HB_F.out)
  have HB_X := Lib.hid (blockN ((Chg.refl Non _).then_non hg) HB_X.out)
  have HG : Hid (Chg Non w w2) := Lib.hid ((HG.out).then_non hg)
  clear hg z_F c_F_0 c_F_1 c_F_2 c_F_3 z_X c_X_0 c_X_1 c_X_2 c_X_3 c_X_4
  obtain ⟨⟨z_F, c_F_0, c_F_1, c_F_2, c_F_3⟩, _⟩ := (Blk4.mk HB_F.out).all
  obtain ⟨⟨z_X, c_X_0, c_X_1, c_X_2, c_X_3, c_X_4⟩, _⟩ := (Blk5.mk HB_X.out).all
  go_wp2_with fail
  refine (Dec_v e1 e2 e3 e4 op a b c n _ HFo.out.1 HFo.out.2 HM.out).mono ?_
  rintro e w3 ⟨rfl, hg⟩
  have HB_F := Lib.hid (blockN (((Chg.refl Non _).alloc _).then_non hg) HB_F.out)
  have HB_X := Lib.hid (blockN (((Chg.refl Non _).alloc _).then_non hg) HB_X.out)
  have HB_B := Lib.hid (blockN hg (al_1_0 _ _))
  have HG : Hid (Chg Non w w3) := Lib.hid (((HG.out).alloc _).then_non hg)
  clear hg z_F c_F_0 c_F_1 c_F_2 c_F_3 z_X c_X_0 c_X_1 c_X_2 c_X_3 c_X_4
  obtain ⟨⟨z_F, c_F_0, c_F_1, c_F_2, c_F_3⟩, _⟩ := (Blk4.mk HB_F.out).all
  obtain ⟨⟨z_X, c_X_0, c_X_1, c_X_2, c_X_3, c_X_4⟩, _⟩ := (Blk5.mk HB_X.out).all
  obtain ⟨⟨z_B, c_B_0, c_B_1, c_B_2, c_B_3⟩, _⟩ := (Blk4.mk HB_B.out).all
  go_wp2_with fail
  refine (Text_v op a b c n tx _ (HE.out.non ((HG.out).alloc _)) HTx.out).mono ?_
  rintro e w4 ⟨rfl, hg⟩
  have HB_F := Lib.hid (blockN (((Chg.refl Non _).alloc _).then_non hg) HB_F.out)
  have HB_X := Lib.hid (blockN (((Chg.refl Non _).alloc _).then_non hg) HB_X.out)
  have HB_B := Lib.hid (blockN (((Chg.refl Non _).alloc _).then_non hg) HB_B.out)
  have HB_Y := Lib.hid (blockN hg (al_1_0 _ _))
  have HG : Hid (Chg Non w w4) := Lib.hid (((HG.out).alloc _).then_non hg)
  clear hg z_F c_F_0 c_F_1 c_F_2 c_F_3 z_X c_X_0 c_X_1 c_X_2 c_X_3 c_X_4 z_B c_B_0 c_B_1 c_B_2 c_B_3
  obtain ⟨⟨z_F, c_F_0, c_F_1, c_F_2, c_F_3⟩, _⟩ := (Blk4.mk HB_F.out).all
  obtain ⟨⟨z_X, c_X_0, c_X_1, c_X_2, c_X_3, c_X_4⟩, _⟩ := (Blk5.mk HB_X.out).all
  obtain ⟨⟨z_B, c_B_0, c_B_1, c_B_2, c_B_3⟩, _⟩ := (Blk4.mk HB_B.out).all
  obtain ⟨⟨z_Y, c_Y_0, c_Y_1, c_Y_2, c_Y_3, c_Y_4⟩, _⟩ := (Blk5.mk HB_Y.out).all
  go_wp2_with fail
  refine (Parse_v tx op a b c n _ (HE.out.non HG.out) hxt HPt.out).mono ?_
  rintro e w5 ⟨rfl, hg⟩
  have HB_F := Lib.hid (blockN ((Chg.refl Non _).then_non hg) HB_F.out)
  have HB_X := Lib.hid (blockN ((Chg.refl Non _).then_non hg) HB_X.out)
  have HB_B := Lib.hid (blockN ((Chg.refl Non _).then_non hg) HB_B.out)
  have HB_Y := Lib.hid (blockN ((Chg.refl Non _).then_non hg) HB_Y.out)
  have HG : Hid (Chg Non w w5) := Lib.hid ((HG.out).then_non hg)
  clear hg z_F c_F_0 c_F_1 c_F_2 c_F_3 z_X c_X_0 c_X_1 c_X_2 c_X_3 c_X_4 z_B c_B_0 c_B_1 c_B_2 c_B_3 z_Y c_Y_0 c_Y_1 c_Y_2 c_Y_3 c_Y_4
  obtain ⟨⟨z_F, c_F_0, c_F_1, c_F_2, c_F_3⟩, _⟩ := (Blk4.mk HB_F.out).all
  obtain ⟨⟨z_X, c_X_0, c_X_1, c_X_2, c_X_3, c_X_4⟩, _⟩ := (Blk5.mk HB_X.out).all
  obtain ⟨⟨z_B, c_B_0, c_B_1, c_B_2, c_B_3⟩, _⟩ := (Blk4.mk HB_B.out).all
  obtain ⟨⟨z_Y, c_Y_0, c_Y_1, c_Y_2, c_Y_3, c_Y_4⟩, _⟩ := (Blk5.mk HB_Y.out).all
  go_wp2_with fail
  refine (Dec_v p q r s op2 a2 b2 c2 n2 _ HF.out HD2.out HD.out).mono ?_
  rintro e w6 ⟨rfl, hg⟩
  have HB_F := Lib.hid (blockN (((Chg.refl Non _).alloc _).then_non hg) HB_F.out)
  have HB_X := Lib.hid (blockN (((Chg.refl Non _).alloc _).then_non hg) HB_X.out)
  have HB_B := Lib.hid (blockN (((Chg.refl Non _).alloc _).then_non hg) HB_B.out)
  have HB_Y := Lib.hid (blockN (((Chg.refl Non _).alloc _).then_non hg) HB_Y.out)
  have HB_Z := Lib.hid (blockN hg (al_1_0 _ _))
  have HG : Hid (Chg Non w w6) := Lib.hid (((HG.out).alloc _).then_non hg)
  clear hg z_F c_F_0 c_F_1 c_F_2 c_F_3 z_X c_X_0 c_X_1 c_X_2 c_X_3 c_X_4 z_B c_B_0 c_B_1 c_B_2 c_B_3 z_Y c_Y_0 c_Y_1 c_Y_2 c_Y_3 c_Y_4
  obtain ⟨⟨z_F, c_F_0, c_F_1, c_F_2, c_F_3⟩, _⟩ := (Blk4.mk HB_F.out).all
  obtain ⟨⟨z_X, c_X_0, c_X_1, c_X_2, c_X_3, c_X_4⟩, _⟩ := (Blk5.mk HB_X.out).all
  obtain ⟨⟨z_B, c_B_0, c_B_1, c_B_2, c_B_3⟩, _⟩ := (Blk4.mk HB_B.out).all
  obtain ⟨⟨z_Y, c_Y_0, c_Y_1, c_Y_2, c_Y_3, c_Y_4⟩, _⟩ := (Blk5.mk HB_Y.out).all
  obtain ⟨⟨z_Z, c_Z_0, c_Z_1, c_Z_2, c_Z_3, c_Z_4⟩, _⟩ := (Blk5.mk HB_Z.out).all
  go_wp2_with fail
  refine (Enc_v op2 a2 b2 c2 n2 p q r s _ HD.out HE2.out).mono ?_
  rintro e w7 ⟨rfl, hg⟩
  have HB_F := Lib.hid (blockN (((Chg.refl Non _).alloc _).then_non hg) HB_F.out)
  have HB_X := Lib.hid (blockN (((Chg.refl Non _).alloc _).then_non hg) HB_X.out)
  have HB_B := Lib.hid (blockN (((Chg.refl Non _).alloc _).then_non hg) HB_B.out)
  have HB_Y := Lib.hid (blockN (((Chg.refl Non _).alloc _).then_non hg) HB_Y.out)
  have HB_Z := Lib.hid (blockN (((Chg.refl Non _).alloc _).then_non hg) HB_Z.out)
  have HB_U := Lib.hid (blockN hg (al_1_0 _ _))
  have HG : Hid (Chg Non w w7) := Lib.hid (((HG.out).alloc _).then_non hg)
  clear hg z_F c_F_0 c_F_1 c_F_2 c_F_3 z_X c_X_0 c_X_1 c_X_2 c_X_3 c_X_4 z_B c_B_0 c_B_1 c_B_2 c_B_3 z_Y c_Y_0 c_Y_1 c_Y_2 c_Y_3 c_Y_4 z_Z c_Z_0 c_Z_1 c_Z_2 c_Z_3 c_Z_4
  obtain ⟨⟨z_F, c_F_0, c_F_1, c_F_2, c_F_3⟩, _⟩ := (Blk4.mk HB_F.out).all
  obtain ⟨⟨z_X, c_X_0, c_X_1, c_X_2, c_X_3, c_X_4⟩, _⟩ := (Blk5.mk HB_X.out).all
  obtain ⟨⟨z_B, c_B_0, c_B_1, c_B_2, c_B_3⟩, _⟩ := (Blk4.mk HB_B.out).all
  obtain ⟨⟨z_Y, c_Y_0, c_Y_1, c_Y_2, c_Y_3, c_Y_4⟩, _⟩ := (Blk5.mk HB_Y.out).all
  obtain ⟨⟨z_Z, c_Z_0, c_Z_1, c_Z_2, c_Z_3, c_Z_4⟩, _⟩ := (Blk5.mk HB_Z.out).all
  obtain ⟨⟨z_U, c_U_0, c_U_1, c_U_2, c_U_3, c_U_4⟩, _⟩ := (Blk5.mk HB_U.out).all
  go_wp2_with fail
  refine (May_v op2 a2 b2 c2 n2 true _ HD.out).mono ?_
  rintro e w8 ⟨rfl, hg⟩
  have HB_F := Lib.hid (blockN (((Chg.refl Non _).alloc _).then_non hg) HB_F.out)
  have HB_X := Lib.hid (blockN (((Chg.refl Non _).alloc _).then_non hg) HB_X.out)
  have HB_B := Lib.hid (blockN (((Chg.refl Non _).alloc _).then_non hg) HB_B.out)
  have HB_Y := Lib.hid (blockN (((Chg.refl Non _).alloc _).then_non hg) HB_Y.out)
  have HB_Z := Lib.hid (blockN (((Chg.refl Non _).alloc _).then_non hg) HB_Z.out)
  have HB_U := Lib.hid (blockN (((Chg.refl Non _).alloc _).then_non hg) HB_U.out)
  have HB_V := Lib.hid (blockN hg (al_1_0 _ _))
  have HG : Hid (Chg Non w w8) := Lib.hid (((HG.out).alloc _).then_non hg)
  clear hg z_F c_F_0 c_F_1 c_F_2 c_F_3 z_X c_X_0 c_X_1 c_X_2 c_X_3 c_X_4 z_B c_B_0 c_B_1 c_B_2 c_B_3 z_Y c_Y_0 c_Y_1 c_Y_2 c_Y_3 c_Y_4 z_Z c_Z_0 c_Z_1 c_Z_2 c_Z_3 c_Z_4 z_U c_U_0 c_U_1 c_U_2 c_U_3 c_U_4
  obtain ⟨⟨z_F, c_F_0, c_F_1, c_F_2, c_F_3⟩, _⟩ := (Blk4.mk HB_F.out).all
  obtain ⟨⟨z_X, c_X_0, c_X_1, c_X_2, c_X_3, c_X_4⟩, _⟩ := (Blk5.mk HB_X.out).all
  obtain ⟨⟨z_B, c_B_0, c_B_1, c_B_2, c_B_3⟩, _⟩ := (Blk4.mk HB_B.out).all
  obtain ⟨⟨z_Y, c_Y_0, c_Y_1, c_Y_2, c_Y_3, c_Y_4⟩, _⟩ := (Blk5.mk HB_Y.out).all
  obtain ⟨⟨z_Z, c_Z_0, c_Z_1, c_Z_2, c_Z_3, c_Z_4⟩, _⟩ := (Blk5.mk HB_Z.out).all
  obtain ⟨⟨z_U, c_U_0, c_U_1, c_U_2, c_U_3, c_U_4⟩, _⟩ := (Blk5.mk HB_U.out).all
  obtain ⟨⟨z_V, c_V_0, c_V_1, c_V_2, c_V_3⟩, _⟩ := (Blk4.mk HB_V.out).all
  go_wp2_with fail
  refine (Parse_none l _ (HE.out.non (HG.out)) hlm HP.out).mono ?_
  rintro e w9 ⟨rfl, hg⟩
  have HB_F := Lib.hid (blockN ((Chg.refl Non _).then_non hg) HB_F.out)
  have HB_X := Lib.hid (blockN ((Chg.refl Non _).then_non hg) HB_X.out)
  have HB_B := Lib.hid (blockN ((Chg.refl Non _).then_non hg) HB_B.out)
  have HB_Y := Lib.hid (blockN ((Chg.refl Non _).then_non hg) HB_Y.out)
  have HB_Z := Lib.hid (blockN ((Chg.refl Non _).then_non hg) HB_Z.out)
  have HB_U := Lib.hid (blockN ((Chg.refl Non _).then_non hg) HB_U.out)
  have HB_V := Lib.hid (blockN ((Chg.refl Non _).then_non hg) HB_V.out)
  have HG : Hid (Chg Non w w9) := Lib.hid ((HG.out).then_non hg)
  clear hg z_F c_F_0 c_F_1 c_F_2 c_F_3 z_X c_X_0 c_X_1 c_X_2 c_X_3 c_X_4 z_B c_B_0 c_B_1 c_B_2 c_B_3 z_Y c_Y_0 c_Y_1 c_Y_2 c_Y_3 c_Y_4 z_Z c_Z_0 c_Z_1 c_Z_2 c_Z_3 c_Z_4 z_U c_U_0 c_U_1 c_U_2 c_U_3 c_U_4 z_V c_V_0 c_V_1 c_V_2 c_V_3
  obtain ⟨⟨z_F, c_F_0, c_F_1, c_F_2, c_F_3⟩, _⟩ := (Blk4.mk HB_F.out).all
  obtain ⟨⟨z_X, c_X_0, c_X_1, c_X_2, c_X_3, c_X_4⟩, _⟩ := (Blk5.mk HB_X.out).all
  obtain ⟨⟨z_B, c_B_0, c_B_1, c_B_2, c_B_3⟩, _⟩ := (Blk4.mk HB_B.out).all
  obtain ⟨⟨z_Y, c_Y_0, c_Y_1, c_Y_2, c_Y_3, c_Y_4⟩, _⟩ := (Blk5.mk HB_Y.out).all
  obtain ⟨⟨z_Z, c_Z_0, c_Z_1, c_Z_2, c_Z_3, c_Z_4⟩, _⟩ := (Blk5.mk HB_Z.out).all
  obtain ⟨⟨z_U, c_U_0, c_U_1, c_U_2, c_U_3, c_U_4⟩, _⟩ := (Blk5.mk HB_U.out).all
  obtain ⟨⟨z_V, c_V_0, c_V_1, c_V_2, c_V_3⟩, _⟩ := (Blk4.mk HB_V.out).all
  go_wp2_with fail
  refine (iawake_ok _ (HE.out.non ((HG.out).alloc _))).mono ?_
  rintro e w10 ⟨rfl, hg⟩
  have HB_F := Lib.hid (blockN (((Chg.refl Non _).alloc _).then_non hg) HB_F.out)
  have HB_X := Lib.hid (blockN (((Chg.refl Non _).alloc _).then_non hg) HB_X.out)
  have HB_B := Lib.hid (blockN (((Chg.refl Non _).alloc _).then_non hg) HB_B.out)
  have HB_Y := Lib.hid (blockN (((Chg.refl Non _).alloc _).then_non hg) HB_Y.out)
  have HB_Z := Lib.hid (blockN (((Chg.refl Non _).alloc _).then_non hg) HB_Z.out)
  have HB_U := Lib.hid (blockN (((Chg.refl Non _).alloc _).then_non hg) HB_U.out)
  have HB_V := Lib.hid (blockN (((Chg.refl Non _).alloc _).then_non hg) HB_V.out)
  have HB_Q := Lib.hid (blockN hg (al_1_0 _ _))
  have HG : Hid (Chg Non w w10) := Lib.hid (((HG.out).alloc _).then_non hg)
  clear hg z_F c_F_0 c_F_1 c_F_2 c_F_3 z_X c_X_0 c_X_1 c_X_2 c_X_3 c_X_4 z_B c_B_0 c_B_1 c_B_2 c_B_3 z_Y c_Y_0 c_Y_1 c_Y_2 c_Y_3 c_Y_4 z_Z c_Z_0 c_Z_1 c_Z_2 c_Z_3 c_Z_4 z_U c_U_0 c_U_1 c_U_2 c_U_3 c_U_4 z_V c_V_0 c_V_1 c_V_2 c_V_3
  obtain ⟨⟨z_F, c_F_0, c_F_1, c_F_2, c_F_3⟩, _⟩ := (Blk4.mk HB_F.out).all
  obtain ⟨⟨z_X, c_X_0, c_X_1, c_X_2, c_X_3, c_X_4⟩, _⟩ := (Blk5.mk HB_X.out).all
  obtain ⟨⟨z_B, c_B_0, c_B_1, c_B_2, c_B_3⟩, _⟩ := (Blk4.mk HB_B.out).all
  obtain ⟨⟨z_Y, c_Y_0, c_Y_1, c_Y_2, c_Y_3, c_Y_4⟩, _⟩ := (Blk5.mk HB_Y.out).all
  obtain ⟨⟨z_Z, c_Z_0, c_Z_1, c_Z_2, c_Z_3, c_Z_4⟩, _⟩ := (Blk5.mk HB_Z.out).all
  obtain ⟨⟨z_U, c_U_0, c_U_1, c_U_2, c_U_3, c_U_4⟩, _⟩ := (Blk5.mk HB_U.out).all
  obtain ⟨⟨z_V, c_V_0, c_V_1, c_V_2, c_V_3⟩, _⟩ := (Blk4.mk HB_V.out).all
  obtain ⟨⟨z_Q, c_Q_0, c_Q_1, c_Q_2, c_Q_3, c_Q_4⟩, _⟩ := (Blk5.mk HB_Q.out).all
  go_wp2_with fail
  go_ret
  exact ⟨rfl, HG.out⟩

set_option maxRecDepth 100000 in
set_option maxHeartbeats 4000000 in
theorem back_101 (op a b c : Nat) (n : Int) (p q r s : Nat) (l : List UInt8) (w : World) (hE : Env w) (hx : Ins.Bd ⟨op, a, b, c, n⟩) (hf : Four (p, q, r, s)) (hl : l.length ≤ 100) (hm : mayB ⟨op, a, b, c, n⟩ = true) (hd : mayB (decI p q r s) = false) (y : Ins) (hp : parseC l = some y) :
    Calls Tryd.prog 6 #[.int .u8 op, .int .u8 a, .int .u8 b, .int .u8 c, .int .i64 n, .agg #[.int .u8 p, .int .u8 q, .int .u8 r, .int .u8 s], .string ⟨l.toArray⟩] w fun e w' => e = .returned (.bool true) ∧ Chg Non w w' := by
  have HE := Lib.hid hE
  have hlen : decide ((l.length : Int) > 100) = false := by simp; omega
  have hlm : l.length < 1000000 := by omega
  have HX := Lib.hid hx
  have HF := Lib.hid hf
  have HM := Lib.hid hm
  have HP := Lib.hid hp
  have HD := Lib.hid hd
  clear hE hx hf hm hp hd hl
  obtain ⟨⟨e1, e2, e3, e4⟩, he⟩ : ∃ f, encI ⟨op, a, b, c, n⟩ = f := ⟨_, rfl⟩
  have HEn := Lib.hid he
  have HFo := Lib.hid (enc_four HM.out he)
  clear he
  obtain ⟨tx, htx⟩ : ∃ t, textL ⟨op, a, b, c, n⟩ = t := ⟨_, rfl⟩
  have HTx := Lib.hid htx
  have hxt : tx.length < 1000000 := by rw [← htx]; exact textL_len _
  have HPt : Hid (parseC tx = some ⟨op, a, b, c, n⟩) := Lib.hid (by rw [← htx]; exact parseC_text HM.out)
  clear htx
  have heq := ins_eq op a b c n HX.out
  obtain ⟨op3, a3, b3, c3, n3⟩ := y
  have HT3 := Lib.hid (parseC_some HP.out)
  have hss : (l == l) = true := by simp
  go_enter Tryd.func6, Tryd.ntmps6
  go_wp2_with fail
  refine (May_v op a b c n true _ HM.out).mono ?_
  rintro e w1 ⟨rfl, hg⟩
  have HB_F := Lib.hid (blockN hg (al_2_0 _ _ _))
  have HB_X := Lib.hid (blockN hg (al_2_1 _ _ _))
  have HG : Hid (Chg Non w w1) := Lib.hid ((((Chg.refl Non w).alloc _).alloc _).then_non hg)
  clear hg
  obtain ⟨⟨z_F, c_F_0, c_F_1, c_F_2, c_F_3⟩, _⟩ := (Blk4.mk HB_F.out).all
  obtain ⟨⟨z_X, c_X_0, c_X_1, c_X_2, c_X_3, c_X_4⟩, _⟩ := (Blk5.mk HB_X.out).all
  go_wp2_with fail
  refine (Enc_v op a b c n e1 e2 e3 e4 _ HM.out HEn.out).mono ?_
  rintro e w2 ⟨rfl, hg⟩
  have HB_F := Lib.hid (blockN ((Chg.refl Non _).then_non hg) HB_F.out)
  have HB_X := Lib.hid (blockN ((Chg.refl Non _).then_non hg) HB_X.out)
  have HG : Hid (Chg Non w w2) := Lib.hid ((HG.out).then_non hg)
  clear hg z_F c_F_0 c_F_1 c_F_2 c_F_3 z_X c_X_0 c_X_1 c_X_2 c_X_3 c_X_4
  obtain ⟨⟨z_F, c_F_0, c_F_1, c_F_2, c_F_3⟩, _⟩ := (Blk4.mk HB_F.out).all
  obtain ⟨⟨z_X, c_X_0, c_X_1, c_X_2, c_X_3, c_X_4⟩, _⟩ := (Blk5.mk HB_X.out).all
  go_wp2_with fail
  refine (Dec_v e1 e2 e3 e4 op a b c n _ HFo.out.1 HFo.out.2 HM.out).mono ?_
  rintro e w3 ⟨rfl, hg⟩
  have HB_F := Lib.hid (blockN (((Chg.refl Non _).alloc _).then_non hg) HB_F.out)
  have HB_X := Lib.hid (blockN (((Chg.refl Non _).alloc _).then_non hg) HB_X.out)
  have HB_B := Lib.hid (blockN hg (al_1_0 _ _))
  have HG : Hid (Chg Non w w3) := Lib.hid (((HG.out).alloc _).then_non hg)
  clear hg z_F c_F_0 c_F_1 c_F_2 c_F_3 z_X c_X_0 c_X_1 c_X_2 c_X_3 c_X_4
  obtain ⟨⟨z_F, c_F_0, c_F_1, c_F_2, c_F_3⟩, _⟩ := (Blk4.mk HB_F.out).all
  obtain ⟨⟨z_X, c_X_0, c_X_1, c_X_2, c_X_3, c_X_4⟩, _⟩ := (Blk5.mk HB_X.out).all
  obtain ⟨⟨z_B, c_B_0, c_B_1, c_B_2, c_B_3⟩, _⟩ := (Blk4.mk HB_B.out).all
  go_wp2_with fail
  refine (Text_v op a b c n tx _ (HE.out.non ((HG.out).alloc _)) HTx.out).mono ?_
  rintro e w4 ⟨rfl, hg⟩
  have HB_F := Lib.hid (blockN (((Chg.refl Non _).alloc _).then_non hg) HB_F.out)
  have HB_X := Lib.hid (blockN (((Chg.refl Non _).alloc _).then_non hg) HB_X.out)
  have HB_B := Lib.hid (blockN (((Chg.refl Non _).alloc _).then_non hg) HB_B.out)
  have HB_Y := Lib.hid (blockN hg (al_1_0 _ _))
  have HG : Hid (Chg Non w w4) := Lib.hid (((HG.out).alloc _).then_non hg)
  clear hg z_F c_F_0 c_F_1 c_F_2 c_F_3 z_X c_X_0 c_X_1 c_X_2 c_X_3 c_X_4 z_B c_B_0 c_B_1 c_B_2 c_B_3
  obtain ⟨⟨z_F, c_F_0, c_F_1, c_F_2, c_F_3⟩, _⟩ := (Blk4.mk HB_F.out).all
  obtain ⟨⟨z_X, c_X_0, c_X_1, c_X_2, c_X_3, c_X_4⟩, _⟩ := (Blk5.mk HB_X.out).all
  obtain ⟨⟨z_B, c_B_0, c_B_1, c_B_2, c_B_3⟩, _⟩ := (Blk4.mk HB_B.out).all
  obtain ⟨⟨z_Y, c_Y_0, c_Y_1, c_Y_2, c_Y_3, c_Y_4⟩, _⟩ := (Blk5.mk HB_Y.out).all
  go_wp2_with fail
  refine (Parse_v tx op a b c n _ (HE.out.non HG.out) hxt HPt.out).mono ?_
  rintro e w5 ⟨rfl, hg⟩
  have HB_F := Lib.hid (blockN ((Chg.refl Non _).then_non hg) HB_F.out)
  have HB_X := Lib.hid (blockN ((Chg.refl Non _).then_non hg) HB_X.out)
  have HB_B := Lib.hid (blockN ((Chg.refl Non _).then_non hg) HB_B.out)
  have HB_Y := Lib.hid (blockN ((Chg.refl Non _).then_non hg) HB_Y.out)
  have HG : Hid (Chg Non w w5) := Lib.hid ((HG.out).then_non hg)
  clear hg z_F c_F_0 c_F_1 c_F_2 c_F_3 z_X c_X_0 c_X_1 c_X_2 c_X_3 c_X_4 z_B c_B_0 c_B_1 c_B_2 c_B_3 z_Y c_Y_0 c_Y_1 c_Y_2 c_Y_3 c_Y_4
  obtain ⟨⟨z_F, c_F_0, c_F_1, c_F_2, c_F_3⟩, _⟩ := (Blk4.mk HB_F.out).all
  obtain ⟨⟨z_X, c_X_0, c_X_1, c_X_2, c_X_3, c_X_4⟩, _⟩ := (Blk5.mk HB_X.out).all
  obtain ⟨⟨z_B, c_B_0, c_B_1, c_B_2, c_B_3⟩, _⟩ := (Blk4.mk HB_B.out).all
  obtain ⟨⟨z_Y, c_Y_0, c_Y_1, c_Y_2, c_Y_3, c_Y_4⟩, _⟩ := (Blk5.mk HB_Y.out).all
  go_wp2_with fail
  refine (Dec_n p q r s _ HF.out HD.out).mono ?_
  rintro e w6 ⟨rfl, hg⟩
  have HB_F := Lib.hid (blockN (((Chg.refl Non _).alloc _).then_non hg) HB_F.out)
  have HB_X := Lib.hid (blockN (((Chg.refl Non _).alloc _).then_non hg) HB_X.out)
  have HB_B := Lib.hid (blockN (((Chg.refl Non _).alloc _).then_non hg) HB_B.out)
  have HB_Y := Lib.hid (blockN (((Chg.refl Non _).alloc _).then_non hg) HB_Y.out)
  have HB_Z := Lib.hid (blockN hg (al_1_0 _ _))
  have HG : Hid (Chg Non w w6) := Lib.hid (((HG.out).alloc _).then_non hg)
  clear hg z_F c_F_0 c_F_1 c_F_2 c_F_3 z_X c_X_0 c_X_1 c_X_2 c_X_3 c_X_4 z_B c_B_0 c_B_1 c_B_2 c_B_3 z_Y c_Y_0 c_Y_1 c_Y_2 c_Y_3 c_Y_4
  obtain ⟨⟨z_F, c_F_0, c_F_1, c_F_2, c_F_3⟩, _⟩ := (Blk4.mk HB_F.out).all
  obtain ⟨⟨z_X, c_X_0, c_X_1, c_X_2, c_X_3, c_X_4⟩, _⟩ := (Blk5.mk HB_X.out).all
  obtain ⟨⟨z_B, c_B_0, c_B_1, c_B_2, c_B_3⟩, _⟩ := (Blk4.mk HB_B.out).all
  obtain ⟨⟨z_Y, c_Y_0, c_Y_1, c_Y_2, c_Y_3, c_Y_4⟩, _⟩ := (Blk5.mk HB_Y.out).all
  obtain ⟨⟨z_Z, c_Z_0, c_Z_1, c_Z_2, c_Z_3, c_Z_4⟩, _⟩ := (Blk5.mk HB_Z.out).all
  go_wp2_with fail
  refine (Parse_v l op3 a3 b3 c3 n3 _ (HE.out.non ((HG.out).alloc _)) hlm HP.out).mono ?_
  rintro e w7 ⟨rfl, hg⟩
  have HB_F := Lib.hid (blockN (((Chg.refl Non _).alloc _).then_non hg) HB_F.out)
  have HB_X := Lib.hid (blockN (((Chg.refl Non _).alloc _).then_non hg) HB_X.out)
  have HB_B := Lib.hid (blockN (((Chg.refl Non _).alloc _).then_non hg) HB_B.out)
  have HB_Y := Lib.hid (blockN (((Chg.refl Non _).alloc _).then_non hg) HB_Y.out)
  have HB_Z := Lib.hid (blockN (((Chg.refl Non _).alloc _).then_non hg) HB_Z.out)
  have HB_U := Lib.hid (blockN hg (al_1_0 _ _))
  have HG : Hid (Chg Non w w7) := Lib.hid (((HG.out).alloc _).then_non hg)
  clear hg z_F c_F_0 c_F_1 c_F_2 c_F_3 z_X c_X_0 c_X_1 c_X_2 c_X_3 c_X_4 z_B c_B_0 c_B_1 c_B_2 c_B_3 z_Y c_Y_0 c_Y_1 c_Y_2 c_Y_3 c_Y_4 z_Z c_Z_0 c_Z_1 c_Z_2 c_Z_3 c_Z_4
  obtain ⟨⟨z_F, c_F_0, c_F_1, c_F_2, c_F_3⟩, _⟩ := (Blk4.mk HB_F.out).all
  obtain ⟨⟨z_X, c_X_0, c_X_1, c_X_2, c_X_3, c_X_4⟩, _⟩ := (Blk5.mk HB_X.out).all
  obtain ⟨⟨z_B, c_B_0, c_B_1, c_B_2, c_B_3⟩, _⟩ := (Blk4.mk HB_B.out).all
  obtain ⟨⟨z_Y, c_Y_0, c_Y_1, c_Y_2, c_Y_3, c_Y_4⟩, _⟩ := (Blk5.mk HB_Y.out).all
  obtain ⟨⟨z_Z, c_Z_0, c_Z_1, c_Z_2, c_Z_3, c_Z_4⟩, _⟩ := (Blk5.mk HB_Z.out).all
  obtain ⟨⟨z_U, c_U_0, c_U_1, c_U_2, c_U_3, c_U_4⟩, _⟩ := (Blk5.mk HB_U.out).all
  go_wp2_with fail
  refine (Text_v op3 a3 b3 c3 n3 l _ (HE.out.non ((HG.out).alloc _)) HT3.out.2).mono ?_
  rintro e w8 ⟨rfl, hg⟩
  have HB_F := Lib.hid (blockN (((Chg.refl Non _).alloc _).then_non hg) HB_F.out)
  have HB_X := Lib.hid (blockN (((Chg.refl Non _).alloc _).then_non hg) HB_X.out)
  have HB_B := Lib.hid (blockN (((Chg.refl Non _).alloc _).then_non hg) HB_B.out)
  have HB_Y := Lib.hid (blockN (((Chg.refl Non _).alloc _).then_non hg) HB_Y.out)
  have HB_Z := Lib.hid (blockN (((Chg.refl Non _).alloc _).then_non hg) HB_Z.out)
  have HB_U := Lib.hid (blockN (((Chg.refl Non _).alloc _).then_non hg) HB_U.out)
  have HB_Q := Lib.hid (blockN hg (al_1_0 _ _))
  have HG : Hid (Chg Non w w8) := Lib.hid (((HG.out).alloc _).then_non hg)
  clear hg z_F c_F_0 c_F_1 c_F_2 c_F_3 z_X c_X_0 c_X_1 c_X_2 c_X_3 c_X_4 z_B c_B_0 c_B_1 c_B_2 c_B_3 z_Y c_Y_0 c_Y_1 c_Y_2 c_Y_3 c_Y_4 z_Z c_Z_0 c_Z_1 c_Z_2 c_Z_3 c_Z_4 z_U c_U_0 c_U_1 c_U_2 c_U_3 c_U_4
  obtain ⟨⟨z_F, c_F_0, c_F_1, c_F_2, c_F_3⟩, _⟩ := (Blk4.mk HB_F.out).all
  obtain ⟨⟨z_X, c_X_0, c_X_1, c_X_2, c_X_3, c_X_4⟩, _⟩ := (Blk5.mk HB_X.out).all
  obtain ⟨⟨z_B, c_B_0, c_B_1, c_B_2, c_B_3⟩, _⟩ := (Blk4.mk HB_B.out).all
  obtain ⟨⟨z_Y, c_Y_0, c_Y_1, c_Y_2, c_Y_3, c_Y_4⟩, _⟩ := (Blk5.mk HB_Y.out).all
  obtain ⟨⟨z_Z, c_Z_0, c_Z_1, c_Z_2, c_Z_3, c_Z_4⟩, _⟩ := (Blk5.mk HB_Z.out).all
  obtain ⟨⟨z_U, c_U_0, c_U_1, c_U_2, c_U_3, c_U_4⟩, _⟩ := (Blk5.mk HB_U.out).all
  obtain ⟨⟨z_Q, c_Q_0, c_Q_1, c_Q_2, c_Q_3, c_Q_4⟩, _⟩ := (Blk5.mk HB_Q.out).all
  go_wp2_with fail
  refine (May_v op3 a3 b3 c3 n3 true _ HT3.out.1).mono ?_
  rintro e w9 ⟨rfl, hg⟩
  have HB_F := Lib.hid (blockN ((Chg.refl Non _).then_non hg) HB_F.out)
  have HB_X := Lib.hid (blockN ((Chg.refl Non _).then_non hg) HB_X.out)
  have HB_B := Lib.hid (blockN ((Chg.refl Non _).then_non hg) HB_B.out)
  have HB_Y := Lib.hid (blockN ((Chg.refl Non _).then_non hg) HB_Y.out)
  have HB_Z := Lib.hid (blockN ((Chg.refl Non _).then_non hg) HB_Z.out)
  have HB_U := Lib.hid (blockN ((Chg.refl Non _).then_non hg) HB_U.out)
  have HB_Q := Lib.hid (blockN ((Chg.refl Non _).then_non hg) HB_Q.out)
  have HG : Hid (Chg Non w w9) := Lib.hid ((HG.out).then_non hg)
  clear hg z_F c_F_0 c_F_1 c_F_2 c_F_3 z_X c_X_0 c_X_1 c_X_2 c_X_3 c_X_4 z_B c_B_0 c_B_1 c_B_2 c_B_3 z_Y c_Y_0 c_Y_1 c_Y_2 c_Y_3 c_Y_4 z_Z c_Z_0 c_Z_1 c_Z_2 c_Z_3 c_Z_4 z_U c_U_0 c_U_1 c_U_2 c_U_3 c_U_4 z_Q c_Q_0 c_Q_1 c_Q_2 c_Q_3 c_Q_4
  obtain ⟨⟨z_F, c_F_0, c_F_1, c_F_2, c_F_3⟩, _⟩ := (Blk4.mk HB_F.out).all
  obtain ⟨⟨z_X, c_X_0, c_X_1, c_X_2, c_X_3, c_X_4⟩, _⟩ := (Blk5.mk HB_X.out).all
  obtain ⟨⟨z_B, c_B_0, c_B_1, c_B_2, c_B_3⟩, _⟩ := (Blk4.mk HB_B.out).all
  obtain ⟨⟨z_Y, c_Y_0, c_Y_1, c_Y_2, c_Y_3, c_Y_4⟩, _⟩ := (Blk5.mk HB_Y.out).all
  obtain ⟨⟨z_Z, c_Z_0, c_Z_1, c_Z_2, c_Z_3, c_Z_4⟩, _⟩ := (Blk5.mk HB_Z.out).all
  obtain ⟨⟨z_U, c_U_0, c_U_1, c_U_2, c_U_3, c_U_4⟩, _⟩ := (Blk5.mk HB_U.out).all
  obtain ⟨⟨z_Q, c_Q_0, c_Q_1, c_Q_2, c_Q_3, c_Q_4⟩, _⟩ := (Blk5.mk HB_Q.out).all
  go_wp2_with fail
  refine (iawake_ok _ (HE.out.non (HG.out))).mono ?_
  rintro e w10 ⟨rfl, hg⟩
  have HB_F := Lib.hid (blockN ((Chg.refl Non _).then_non hg) HB_F.out)
  have HB_X := Lib.hid (blockN ((Chg.refl Non _).then_non hg) HB_X.out)
  have HB_B := Lib.hid (blockN ((Chg.refl Non _).then_non hg) HB_B.out)
  have HB_Y := Lib.hid (blockN ((Chg.refl Non _).then_non hg) HB_Y.out)
  have HB_Z := Lib.hid (blockN ((Chg.refl Non _).then_non hg) HB_Z.out)
  have HB_U := Lib.hid (blockN ((Chg.refl Non _).then_non hg) HB_U.out)
  have HB_Q := Lib.hid (blockN ((Chg.refl Non _).then_non hg) HB_Q.out)
  have HG : Hid (Chg Non w w10) := Lib.hid ((HG.out).then_non hg)
  clear hg z_F c_F_0 c_F_1 c_F_2 c_F_3 z_X c_X_0 c_X_1 c_X_2 c_X_3 c_X_4 z_B c_B_0 c_B_1 c_B_2 c_B_3 z_Y c_Y_0 c_Y_1 c_Y_2 c_Y_3 c_Y_4 z_Z c_Z_0 c_Z_1 c_Z_2 c_Z_3 c_Z_4 z_U c_U_0 c_U_1 c_U_2 c_U_3 c_U_4 z_Q c_Q_0 c_Q_1 c_Q_2 c_Q_3 c_Q_4
  obtain ⟨⟨z_F, c_F_0, c_F_1, c_F_2, c_F_3⟩, _⟩ := (Blk4.mk HB_F.out).all
  obtain ⟨⟨z_X, c_X_0, c_X_1, c_X_2, c_X_3, c_X_4⟩, _⟩ := (Blk5.mk HB_X.out).all
  obtain ⟨⟨z_B, c_B_0, c_B_1, c_B_2, c_B_3⟩, _⟩ := (Blk4.mk HB_B.out).all
  obtain ⟨⟨z_Y, c_Y_0, c_Y_1, c_Y_2, c_Y_3, c_Y_4⟩, _⟩ := (Blk5.mk HB_Y.out).all
  obtain ⟨⟨z_Z, c_Z_0, c_Z_1, c_Z_2, c_Z_3, c_Z_4⟩, _⟩ := (Blk5.mk HB_Z.out).all
  obtain ⟨⟨z_U, c_U_0, c_U_1, c_U_2, c_U_3, c_U_4⟩, _⟩ := (Blk5.mk HB_U.out).all
  obtain ⟨⟨z_Q, c_Q_0, c_Q_1, c_Q_2, c_Q_3, c_Q_4⟩, _⟩ := (Blk5.mk HB_Q.out).all
  go_wp2_with fail
  go_ret
  exact ⟨rfl, HG.out⟩

set_option maxRecDepth 100000 in
set_option maxHeartbeats 4000000 in
theorem back_100 (op a b c : Nat) (n : Int) (p q r s : Nat) (l : List UInt8) (w : World) (hE : Env w) (hx : Ins.Bd ⟨op, a, b, c, n⟩) (hf : Four (p, q, r, s)) (hl : l.length ≤ 100) (hm : mayB ⟨op, a, b, c, n⟩ = true) (hd : mayB (decI p q r s) = false) (hp : parseC l = none) :
    Calls Tryd.prog 6 #[.int .u8 op, .int .u8 a, .int .u8 b, .int .u8 c, .int .i64 n, .agg #[.int .u8 p, .int .u8 q, .int .u8 r, .int .u8 s], .string ⟨l.toArray⟩] w fun e w' => e = .returned (.bool true) ∧ Chg Non w w' := by
  have HE := Lib.hid hE
  have hlen : decide ((l.length : Int) > 100) = false := by simp; omega
  have hlm : l.length < 1000000 := by omega
  have HX := Lib.hid hx
  have HF := Lib.hid hf
  have HM := Lib.hid hm
  have HP := Lib.hid hp
  have HD := Lib.hid hd
  clear hE hx hf hm hp hd hl
  obtain ⟨⟨e1, e2, e3, e4⟩, he⟩ : ∃ f, encI ⟨op, a, b, c, n⟩ = f := ⟨_, rfl⟩
  have HEn := Lib.hid he
  have HFo := Lib.hid (enc_four HM.out he)
  clear he
  obtain ⟨tx, htx⟩ : ∃ t, textL ⟨op, a, b, c, n⟩ = t := ⟨_, rfl⟩
  have HTx := Lib.hid htx
  have hxt : tx.length < 1000000 := by rw [← htx]; exact textL_len _
  have HPt : Hid (parseC tx = some ⟨op, a, b, c, n⟩) := Lib.hid (by rw [← htx]; exact parseC_text HM.out)
  clear htx
  have heq := ins_eq op a b c n HX.out
  go_enter Tryd.func6, Tryd.ntmps6
  go_wp2_with fail
  refine (May_v op a b c n true _ HM.out).mono ?_
  rintro e w1 ⟨rfl, hg⟩
  have HB_F := Lib.hid (blockN hg (al_2_0 _ _ _))
  have HB_X := Lib.hid (blockN hg (al_2_1 _ _ _))
  have HG : Hid (Chg Non w w1) := Lib.hid ((((Chg.refl Non w).alloc _).alloc _).then_non hg)
  clear hg
  obtain ⟨⟨z_F, c_F_0, c_F_1, c_F_2, c_F_3⟩, _⟩ := (Blk4.mk HB_F.out).all
  obtain ⟨⟨z_X, c_X_0, c_X_1, c_X_2, c_X_3, c_X_4⟩, _⟩ := (Blk5.mk HB_X.out).all
  go_wp2_with fail
  refine (Enc_v op a b c n e1 e2 e3 e4 _ HM.out HEn.out).mono ?_
  rintro e w2 ⟨rfl, hg⟩
  have HB_F := Lib.hid (blockN ((Chg.refl Non _).then_non hg) HB_F.out)
  have HB_X := Lib.hid (blockN ((Chg.refl Non _).then_non hg) HB_X.out)
  have HG : Hid (Chg Non w w2) := Lib.hid ((HG.out).then_non hg)
  clear hg z_F c_F_0 c_F_1 c_F_2 c_F_3 z_X c_X_0 c_X_1 c_X_2 c_X_3 c_X_4
  obtain ⟨⟨z_F, c_F_0, c_F_1, c_F_2, c_F_3⟩, _⟩ := (Blk4.mk HB_F.out).all
  obtain ⟨⟨z_X, c_X_0, c_X_1, c_X_2, c_X_3, c_X_4⟩, _⟩ := (Blk5.mk HB_X.out).all
  go_wp2_with fail
  refine (Dec_v e1 e2 e3 e4 op a b c n _ HFo.out.1 HFo.out.2 HM.out).mono ?_
  rintro e w3 ⟨rfl, hg⟩
  have HB_F := Lib.hid (blockN (((Chg.refl Non _).alloc _).then_non hg) HB_F.out)
  have HB_X := Lib.hid (blockN (((Chg.refl Non _).alloc _).then_non hg) HB_X.out)
  have HB_B := Lib.hid (blockN hg (al_1_0 _ _))
  have HG : Hid (Chg Non w w3) := Lib.hid (((HG.out).alloc _).then_non hg)
  clear hg z_F c_F_0 c_F_1 c_F_2 c_F_3 z_X c_X_0 c_X_1 c_X_2 c_X_3 c_X_4
  obtain ⟨⟨z_F, c_F_0, c_F_1, c_F_2, c_F_3⟩, _⟩ := (Blk4.mk HB_F.out).all
  obtain ⟨⟨z_X, c_X_0, c_X_1, c_X_2, c_X_3, c_X_4⟩, _⟩ := (Blk5.mk HB_X.out).all
  obtain ⟨⟨z_B, c_B_0, c_B_1, c_B_2, c_B_3⟩, _⟩ := (Blk4.mk HB_B.out).all
  go_wp2_with fail
  refine (Text_v op a b c n tx _ (HE.out.non ((HG.out).alloc _)) HTx.out).mono ?_
  rintro e w4 ⟨rfl, hg⟩
  have HB_F := Lib.hid (blockN (((Chg.refl Non _).alloc _).then_non hg) HB_F.out)
  have HB_X := Lib.hid (blockN (((Chg.refl Non _).alloc _).then_non hg) HB_X.out)
  have HB_B := Lib.hid (blockN (((Chg.refl Non _).alloc _).then_non hg) HB_B.out)
  have HB_Y := Lib.hid (blockN hg (al_1_0 _ _))
  have HG : Hid (Chg Non w w4) := Lib.hid (((HG.out).alloc _).then_non hg)
  clear hg z_F c_F_0 c_F_1 c_F_2 c_F_3 z_X c_X_0 c_X_1 c_X_2 c_X_3 c_X_4 z_B c_B_0 c_B_1 c_B_2 c_B_3
  obtain ⟨⟨z_F, c_F_0, c_F_1, c_F_2, c_F_3⟩, _⟩ := (Blk4.mk HB_F.out).all
  obtain ⟨⟨z_X, c_X_0, c_X_1, c_X_2, c_X_3, c_X_4⟩, _⟩ := (Blk5.mk HB_X.out).all
  obtain ⟨⟨z_B, c_B_0, c_B_1, c_B_2, c_B_3⟩, _⟩ := (Blk4.mk HB_B.out).all
  obtain ⟨⟨z_Y, c_Y_0, c_Y_1, c_Y_2, c_Y_3, c_Y_4⟩, _⟩ := (Blk5.mk HB_Y.out).all
  go_wp2_with fail
  refine (Parse_v tx op a b c n _ (HE.out.non HG.out) hxt HPt.out).mono ?_
  rintro e w5 ⟨rfl, hg⟩
  have HB_F := Lib.hid (blockN ((Chg.refl Non _).then_non hg) HB_F.out)
  have HB_X := Lib.hid (blockN ((Chg.refl Non _).then_non hg) HB_X.out)
  have HB_B := Lib.hid (blockN ((Chg.refl Non _).then_non hg) HB_B.out)
  have HB_Y := Lib.hid (blockN ((Chg.refl Non _).then_non hg) HB_Y.out)
  have HG : Hid (Chg Non w w5) := Lib.hid ((HG.out).then_non hg)
  clear hg z_F c_F_0 c_F_1 c_F_2 c_F_3 z_X c_X_0 c_X_1 c_X_2 c_X_3 c_X_4 z_B c_B_0 c_B_1 c_B_2 c_B_3 z_Y c_Y_0 c_Y_1 c_Y_2 c_Y_3 c_Y_4
  obtain ⟨⟨z_F, c_F_0, c_F_1, c_F_2, c_F_3⟩, _⟩ := (Blk4.mk HB_F.out).all
  obtain ⟨⟨z_X, c_X_0, c_X_1, c_X_2, c_X_3, c_X_4⟩, _⟩ := (Blk5.mk HB_X.out).all
  obtain ⟨⟨z_B, c_B_0, c_B_1, c_B_2, c_B_3⟩, _⟩ := (Blk4.mk HB_B.out).all
  obtain ⟨⟨z_Y, c_Y_0, c_Y_1, c_Y_2, c_Y_3, c_Y_4⟩, _⟩ := (Blk5.mk HB_Y.out).all
  go_wp2_with fail
  refine (Dec_n p q r s _ HF.out HD.out).mono ?_
  rintro e w6 ⟨rfl, hg⟩
  have HB_F := Lib.hid (blockN (((Chg.refl Non _).alloc _).then_non hg) HB_F.out)
  have HB_X := Lib.hid (blockN (((Chg.refl Non _).alloc _).then_non hg) HB_X.out)
  have HB_B := Lib.hid (blockN (((Chg.refl Non _).alloc _).then_non hg) HB_B.out)
  have HB_Y := Lib.hid (blockN (((Chg.refl Non _).alloc _).then_non hg) HB_Y.out)
  have HB_Z := Lib.hid (blockN hg (al_1_0 _ _))
  have HG : Hid (Chg Non w w6) := Lib.hid (((HG.out).alloc _).then_non hg)
  clear hg z_F c_F_0 c_F_1 c_F_2 c_F_3 z_X c_X_0 c_X_1 c_X_2 c_X_3 c_X_4 z_B c_B_0 c_B_1 c_B_2 c_B_3 z_Y c_Y_0 c_Y_1 c_Y_2 c_Y_3 c_Y_4
  obtain ⟨⟨z_F, c_F_0, c_F_1, c_F_2, c_F_3⟩, _⟩ := (Blk4.mk HB_F.out).all
  obtain ⟨⟨z_X, c_X_0, c_X_1, c_X_2, c_X_3, c_X_4⟩, _⟩ := (Blk5.mk HB_X.out).all
  obtain ⟨⟨z_B, c_B_0, c_B_1, c_B_2, c_B_3⟩, _⟩ := (Blk4.mk HB_B.out).all
  obtain ⟨⟨z_Y, c_Y_0, c_Y_1, c_Y_2, c_Y_3, c_Y_4⟩, _⟩ := (Blk5.mk HB_Y.out).all
  obtain ⟨⟨z_Z, c_Z_0, c_Z_1, c_Z_2, c_Z_3, c_Z_4⟩, _⟩ := (Blk5.mk HB_Z.out).all
  go_wp2_with fail
  refine (Parse_none l _ (HE.out.non ((HG.out).alloc _)) hlm HP.out).mono ?_
  rintro e w7 ⟨rfl, hg⟩
  have HB_F := Lib.hid (blockN (((Chg.refl Non _).alloc _).then_non hg) HB_F.out)
  have HB_X := Lib.hid (blockN (((Chg.refl Non _).alloc _).then_non hg) HB_X.out)
  have HB_B := Lib.hid (blockN (((Chg.refl Non _).alloc _).then_non hg) HB_B.out)
  have HB_Y := Lib.hid (blockN (((Chg.refl Non _).alloc _).then_non hg) HB_Y.out)
  have HB_Z := Lib.hid (blockN (((Chg.refl Non _).alloc _).then_non hg) HB_Z.out)
  have HB_U := Lib.hid (blockN hg (al_1_0 _ _))
  have HG : Hid (Chg Non w w7) := Lib.hid (((HG.out).alloc _).then_non hg)
  clear hg z_F c_F_0 c_F_1 c_F_2 c_F_3 z_X c_X_0 c_X_1 c_X_2 c_X_3 c_X_4 z_B c_B_0 c_B_1 c_B_2 c_B_3 z_Y c_Y_0 c_Y_1 c_Y_2 c_Y_3 c_Y_4 z_Z c_Z_0 c_Z_1 c_Z_2 c_Z_3 c_Z_4
  obtain ⟨⟨z_F, c_F_0, c_F_1, c_F_2, c_F_3⟩, _⟩ := (Blk4.mk HB_F.out).all
  obtain ⟨⟨z_X, c_X_0, c_X_1, c_X_2, c_X_3, c_X_4⟩, _⟩ := (Blk5.mk HB_X.out).all
  obtain ⟨⟨z_B, c_B_0, c_B_1, c_B_2, c_B_3⟩, _⟩ := (Blk4.mk HB_B.out).all
  obtain ⟨⟨z_Y, c_Y_0, c_Y_1, c_Y_2, c_Y_3, c_Y_4⟩, _⟩ := (Blk5.mk HB_Y.out).all
  obtain ⟨⟨z_Z, c_Z_0, c_Z_1, c_Z_2, c_Z_3, c_Z_4⟩, _⟩ := (Blk5.mk HB_Z.out).all
  obtain ⟨⟨z_U, c_U_0, c_U_1, c_U_2, c_U_3, c_U_4⟩, _⟩ := (Blk5.mk HB_U.out).all
  go_wp2_with fail
  refine (iawake_ok _ (HE.out.non ((HG.out).alloc _))).mono ?_
  rintro e w8 ⟨rfl, hg⟩
  have HB_F := Lib.hid (blockN (((Chg.refl Non _).alloc _).then_non hg) HB_F.out)
  have HB_X := Lib.hid (blockN (((Chg.refl Non _).alloc _).then_non hg) HB_X.out)
  have HB_B := Lib.hid (blockN (((Chg.refl Non _).alloc _).then_non hg) HB_B.out)
  have HB_Y := Lib.hid (blockN (((Chg.refl Non _).alloc _).then_non hg) HB_Y.out)
  have HB_Z := Lib.hid (blockN (((Chg.refl Non _).alloc _).then_non hg) HB_Z.out)
  have HB_U := Lib.hid (blockN (((Chg.refl Non _).alloc _).then_non hg) HB_U.out)
  have HB_Q := Lib.hid (blockN hg (al_1_0 _ _))
  have HG : Hid (Chg Non w w8) := Lib.hid (((HG.out).alloc _).then_non hg)
  clear hg z_F c_F_0 c_F_1 c_F_2 c_F_3 z_X c_X_0 c_X_1 c_X_2 c_X_3 c_X_4 z_B c_B_0 c_B_1 c_B_2 c_B_3 z_Y c_Y_0 c_Y_1 c_Y_2 c_Y_3 c_Y_4 z_Z c_Z_0 c_Z_1 c_Z_2 c_Z_3 c_Z_4 z_U c_U_0 c_U_1 c_U_2 c_U_3 c_U_4
  obtain ⟨⟨z_F, c_F_0, c_F_1, c_F_2, c_F_3⟩, _⟩ := (Blk4.mk HB_F.out).all
  obtain ⟨⟨z_X, c_X_0, c_X_1, c_X_2, c_X_3, c_X_4⟩, _⟩ := (Blk5.mk HB_X.out).all
  obtain ⟨⟨z_B, c_B_0, c_B_1, c_B_2, c_B_3⟩, _⟩ := (Blk4.mk HB_B.out).all
  obtain ⟨⟨z_Y, c_Y_0, c_Y_1, c_Y_2, c_Y_3, c_Y_4⟩, _⟩ := (Blk5.mk HB_Y.out).all
  obtain ⟨⟨z_Z, c_Z_0, c_Z_1, c_Z_2, c_Z_3, c_Z_4⟩, _⟩ := (Blk5.mk HB_Z.out).all
  obtain ⟨⟨z_U, c_U_0, c_U_1, c_U_2, c_U_3, c_U_4⟩, _⟩ := (Blk5.mk HB_U.out).all
  obtain ⟨⟨z_Q, c_Q_0, c_Q_1, c_Q_2, c_Q_3, c_Q_4⟩, _⟩ := (Blk5.mk HB_Q.out).all
  go_wp2_with fail
  go_ret
  exact ⟨rfl, HG.out⟩

set_option maxRecDepth 100000 in
set_option maxHeartbeats 4000000 in
theorem back_011 (op a b c : Nat) (n : Int) (p q r s : Nat) (l : List UInt8) (w : World) (hE : Env w) (hx : Ins.Bd ⟨op, a, b, c, n⟩) (hf : Four (p, q, r, s)) (hl : l.length ≤ 100) (hm : mayB ⟨op, a, b, c, n⟩ = false) (hd : mayB (decI p q r s) = true) (y : Ins) (hp : parseC l = some y) :
    Calls Tryd.prog 6 #[.int .u8 op, .int .u8 a, .int .u8 b, .int .u8 c, .int .i64 n, .agg #[.int .u8 p, .int .u8 q, .int .u8 r, .int .u8 s], .string ⟨l.toArray⟩] w fun e w' => e = .returned (.bool true) ∧ Chg Non w w' := by
  have HE := Lib.hid hE
  have hlen : decide ((l.length : Int) > 100) = false := by simp; omega
  have hlm : l.length < 1000000 := by omega
  have HX := Lib.hid hx
  have HF := Lib.hid hf
  have HM := Lib.hid hm
  have HP := Lib.hid hp
  have HD := Lib.hid hd
  clear hE hx hf hm hp hd hl
  obtain ⟨⟨op2, a2, b2, c2, n2⟩, hd2⟩ : ∃ y, decI p q r s = y := ⟨_, rfl⟩
  rw [hd2] at HD
  have HD2 := Lib.hid hd2
  have HE2 : Hid (encI ⟨op2, a2, b2, c2, n2⟩ = (p, q, r, s)) := Lib.hid (by rw [← hd2]; exact enc_dec p q r s HF.out.1 HF.out.2.1 HF.out.2.2.1 HF.out.2.2.2)
  clear hd2
  have heq4 := four_eq p q r s HF.out
  obtain ⟨op3, a3, b3, c3, n3⟩ := y
  have HT3 := Lib.hid (parseC_some HP.out)
  have hss : (l == l) = true := by simp
  go_enter Tryd.func6, Tryd.ntmps6
  go_wp2_with fail
  refine (May_v op a b c n false _ HM.out).mono ?_
  rintro e w1 ⟨rfl, hg⟩
  have HB_F := Lib.hid (blockN hg (al_2_0 _ _ _))
  have HB_X := Lib.hid (blockN hg (al_2_1 _ _ _))
  have HG : Hid (Chg Non w w1) := Lib.hid ((((Chg.refl Non w).alloc _).alloc _).then_non hg)
  clear hg
  obtain ⟨⟨z_F, c_F_0, c_F_1, c_F_2, c_F_3⟩, _⟩ := (Blk4.mk HB_F.out).all
  obtain ⟨⟨z_X, c_X_0, c_X_1, c_X_2, c_X_3, c_X_4⟩, _⟩ := (Blk5.mk HB_X.out).all
  go_wp2_with fail
  refine (Dec_v p q r s op2 a2 b2 c2 n2 _ HF.out HD2.out HD.out).mono ?_
  rintro e w2 ⟨rfl, hg⟩
  have HB_F := Lib.hid (blockN ((Chg.refl Non _).then_non hg) HB_F.out)
  have HB_X := Lib.hid (blockN ((Chg.refl Non _).then_non hg) HB_X.out)
  have HG : Hid (Chg Non w w2) := Lib.hid ((HG.out).then_non hg)
  clear hg z_F c_F_0 c_F_1 c_F_2 c_F_3 z_X c_X_0 c_X_1 c_X_2 c_X_3 c_X_4
  obtain ⟨⟨z_F, c_F_0, c_F_1, c_F_2, c_F_3⟩, _⟩ := (Blk4.mk HB_F.out).all
  obtain ⟨⟨z_X, c_X_0, c_X_1, c_X_2, c_X_3, c_X_4⟩, _⟩ := (Blk5.mk HB_X.out).all
  go_wp2_with fail
  refine (Enc_v op2 a2 b2 c2 n2 p q r s _ HD.out HE2.out).mono ?_
  rintro e w3 ⟨rfl, hg⟩
  have HB_F := Lib.hid (blockN (((Chg.refl Non _).alloc _).then_non hg) HB_F.out)
  have HB_X := Lib.hid (blockN (((Chg.refl Non _).alloc _).then_non hg) HB_X.out)
  have HB_U := Lib.hid (blockN hg (al_1_0 _ _))
  have HG : Hid (Chg Non w w3) := Lib.hid (((HG.out).alloc _).then_non hg)
  clear hg z_F c_F_0 c_F_1 c_F_2 c_F_3 z_X c_X_0 c_X_1 c_X_2 c_X_3 c_X_4
  obtain ⟨⟨z_F, c_F_0, c_F_1, c_F_2, c_F_3⟩, _⟩ := (Blk4.mk HB_F.out).all
  obtain ⟨⟨z_X, c_X_0, c_X_1, c_X_2, c_X_3, c_X_4⟩, _⟩ := (Blk5.mk HB_X.out).all
  obtain ⟨⟨z_U, c_U_0, c_U_1, c_U_2, c_U_3, c_U_4⟩, _⟩ := (Blk5.mk HB_U.out).all
  go_wp2_with fail
  refine (May_v op2 a2 b2 c2 n2 true _ HD.out).mono ?_
  rintro e w4 ⟨rfl, hg⟩
  have HB_F := Lib.hid (blockN (((Chg.refl Non _).alloc _).then_non hg) HB_F.out)
  have HB_X := Lib.hid (blockN (((Chg.refl Non _).alloc _).then_non hg) HB_X.out)
  have HB_U := Lib.hid (blockN (((Chg.refl Non _).alloc _).then_non hg) HB_U.out)
  have HB_V := Lib.hid (blockN hg (al_1_0 _ _))
  have HG : Hid (Chg Non w w4) := Lib.hid (((HG.out).alloc _).then_non hg)
  clear hg z_F c_F_0 c_F_1 c_F_2 c_F_3 z_X c_X_0 c_X_1 c_X_2 c_X_3 c_X_4 z_U c_U_0 c_U_1 c_U_2 c_U_3 c_U_4
  obtain ⟨⟨z_F, c_F_0, c_F_1, c_F_2, c_F_3⟩, _⟩ := (Blk4.mk HB_F.out).all
  obtain ⟨⟨z_X, c_X_0, c_X_1, c_X_2, c_X_3, c_X_4⟩, _⟩ := (Blk5.mk HB_X.out).all
  obtain ⟨⟨z_U, c_U_0, c_U_1, c_U_2, c_U_3, c_U_4⟩, _⟩ := (Blk5.mk HB_U.out).all
  obtain ⟨⟨z_V, c_V_0, c_V_1, c_V_2, c_V_3⟩, _⟩ := (Blk4.mk HB_V.out).all
  go_wp2_with fail
  refine (Parse_v l op3 a3 b3 c3 n3 _ (HE.out.non (HG.out)) hlm HP.out).mono ?_
  rintro e w5 ⟨rfl, hg⟩
  have HB_F := Lib.hid (blockN ((Chg.refl Non _).then_non hg) HB_F.out)
  have HB_X := Lib.hid (blockN ((Chg.refl Non _).then_non hg) HB_X.out)
  have HB_U := Lib.hid (blockN ((Chg.refl Non _).then_non hg) HB_U.out)
  have HB_V := Lib.hid (blockN ((Chg.refl Non _).then_non hg) HB_V.out)
  have HG : Hid (Chg Non w w5) := Lib.hid ((HG.out).then_non hg)
  clear hg z_F c_F_0 c_F_1 c_F_2 c_F_3 z_X c_X_0 c_X_1 c_X_2 c_X_3 c_X_4 z_U c_U_0 c_U_1 c_U_2 c_U_3 c_U_4 z_V c_V_0 c_V_1 c_V_2 c_V_3
  obtain ⟨⟨z_F, c_F_0, c_F_1, c_F_2, c_F_3⟩, _⟩ := (Blk4.mk HB_F.out).all
  obtain ⟨⟨z_X, c_X_0, c_X_1, c_X_2, c_X_3, c_X_4⟩, _⟩ := (Blk5.mk HB_X.out).all
  obtain ⟨⟨z_U, c_U_0, c_U_1, c_U_2, c_U_3, c_U_4⟩, _⟩ := (Blk5.mk HB_U.out).all
  obtain ⟨⟨z_V, c_V_0, c_V_1, c_V_2, c_V_3⟩, _⟩ := (Blk4.mk HB_V.out).all
  go_wp2_with fail
  refine (Text_v op3 a3 b3 c3 n3 l _ (HE.out.non ((HG.out).alloc _)) HT3.out.2).mono ?_
  rintro e w6 ⟨rfl, hg⟩
  have HB_F := Lib.hid (blockN (((Chg.refl Non _).alloc _).then_non hg) HB_F.out)
  have HB_X := Lib.hid (blockN (((Chg.refl Non _).alloc _).then_non hg) HB_X.out)
  have HB_U := Lib.hid (blockN (((Chg.refl Non _).alloc _).then_non hg) HB_U.out)
  have HB_V := Lib.hid (blockN (((Chg.refl Non _).alloc _).then_non hg) HB_V.out)
  have HB_Q := Lib.hid (blockN hg (al_1_0 _ _))
  have HG : Hid (Chg Non w w6) := Lib.hid (((HG.out).alloc _).then_non hg)
  clear hg z_F c_F_0 c_F_1 c_F_2 c_F_3 z_X c_X_0 c_X_1 c_X_2 c_X_3 c_X_4 z_U c_U_0 c_U_1 c_U_2 c_U_3 c_U_4 z_V c_V_0 c_V_1 c_V_2 c_V_3
  obtain ⟨⟨z_F, c_F_0, c_F_1, c_F_2, c_F_3⟩, _⟩ := (Blk4.mk HB_F.out).all
  obtain ⟨⟨z_X, c_X_0, c_X_1, c_X_2, c_X_3, c_X_4⟩, _⟩ := (Blk5.mk HB_X.out).all
  obtain ⟨⟨z_U, c_U_0, c_U_1, c_U_2, c_U_3, c_U_4⟩, _⟩ := (Blk5.mk HB_U.out).all
  obtain ⟨⟨z_V, c_V_0, c_V_1, c_V_2, c_V_3⟩, _⟩ := (Blk4.mk HB_V.out).all
  obtain ⟨⟨z_Q, c_Q_0, c_Q_1, c_Q_2, c_Q_3, c_Q_4⟩, _⟩ := (Blk5.mk HB_Q.out).all
  go_wp2_with fail
  refine (May_v op3 a3 b3 c3 n3 true _ HT3.out.1).mono ?_
  rintro e w7 ⟨rfl, hg⟩
  have HB_F := Lib.hid (blockN ((Chg.refl Non _).then_non hg) HB_F.out)
  have HB_X := Lib.hid (blockN ((Chg.refl Non _).then_non hg) HB_X.out)
  have HB_U := Lib.hid (blockN ((Chg.refl Non _).then_non hg) HB_U.out)
  have HB_V := Lib.hid (blockN ((Chg.refl Non _).then_non hg) HB_V.out)
  have HB_Q := Lib.hid (blockN ((Chg.refl Non _).then_non hg) HB_Q.out)
  have HG : Hid (Chg Non w w7) := Lib.hid ((HG.out).then_non hg)
  clear hg z_F c_F_0 c_F_1 c_F_2 c_F_3 z_X c_X_0 c_X_1 c_X_2 c_X_3 c_X_4 z_U c_U_0 c_U_1 c_U_2 c_U_3 c_U_4 z_V c_V_0 c_V_1 c_V_2 c_V_3 z_Q c_Q_0 c_Q_1 c_Q_2 c_Q_3 c_Q_4
  obtain ⟨⟨z_F, c_F_0, c_F_1, c_F_2, c_F_3⟩, _⟩ := (Blk4.mk HB_F.out).all
  obtain ⟨⟨z_X, c_X_0, c_X_1, c_X_2, c_X_3, c_X_4⟩, _⟩ := (Blk5.mk HB_X.out).all
  obtain ⟨⟨z_U, c_U_0, c_U_1, c_U_2, c_U_3, c_U_4⟩, _⟩ := (Blk5.mk HB_U.out).all
  obtain ⟨⟨z_V, c_V_0, c_V_1, c_V_2, c_V_3⟩, _⟩ := (Blk4.mk HB_V.out).all
  obtain ⟨⟨z_Q, c_Q_0, c_Q_1, c_Q_2, c_Q_3, c_Q_4⟩, _⟩ := (Blk5.mk HB_Q.out).all
  go_wp2_with fail
  refine (iawake_ok _ (HE.out.non (HG.out))).mono ?_
  rintro e w8 ⟨rfl, hg⟩
  have HB_F := Lib.hid (blockN ((Chg.refl Non _).then_non hg) HB_F.out)
  have HB_X := Lib.hid (blockN ((Chg.refl Non _).then_non hg) HB_X.out)
  have HB_U := Lib.hid (blockN ((Chg.refl Non _).then_non hg) HB_U.out)
  have HB_V := Lib.hid (blockN ((Chg.refl Non _).then_non hg) HB_V.out)
  have HB_Q := Lib.hid (blockN ((Chg.refl Non _).then_non hg) HB_Q.out)
  have HG : Hid (Chg Non w w8) := Lib.hid ((HG.out).then_non hg)
  clear hg z_F c_F_0 c_F_1 c_F_2 c_F_3 z_X c_X_0 c_X_1 c_X_2 c_X_3 c_X_4 z_U c_U_0 c_U_1 c_U_2 c_U_3 c_U_4 z_V c_V_0 c_V_1 c_V_2 c_V_3 z_Q c_Q_0 c_Q_1 c_Q_2 c_Q_3 c_Q_4
  obtain ⟨⟨z_F, c_F_0, c_F_1, c_F_2, c_F_3⟩, _⟩ := (Blk4.mk HB_F.out).all
  obtain ⟨⟨z_X, c_X_0, c_X_1, c_X_2, c_X_3, c_X_4⟩, _⟩ := (Blk5.mk HB_X.out).all
  obtain ⟨⟨z_U, c_U_0, c_U_1, c_U_2, c_U_3, c_U_4⟩, _⟩ := (Blk5.mk HB_U.out).all
  obtain ⟨⟨z_V, c_V_0, c_V_1, c_V_2, c_V_3⟩, _⟩ := (Blk4.mk HB_V.out).all
  obtain ⟨⟨z_Q, c_Q_0, c_Q_1, c_Q_2, c_Q_3, c_Q_4⟩, _⟩ := (Blk5.mk HB_Q.out).all
  go_wp2_with fail
  go_ret
  exact ⟨rfl, HG.out⟩

set_option maxRecDepth 100000 in
set_option maxHeartbeats 4000000 in
theorem back_010 (op a b c : Nat) (n : Int) (p q r s : Nat) (l : List UInt8) (w : World) (hE : Env w) (hx : Ins.Bd ⟨op, a, b, c, n⟩) (hf : Four (p, q, r, s)) (hl : l.length ≤ 100) (hm : mayB ⟨op, a, b, c, n⟩ = false) (hd : mayB (decI p q r s) = true) (hp : parseC l = none) :
    Calls Tryd.prog 6 #[.int .u8 op, .int .u8 a, .int .u8 b, .int .u8 c, .int .i64 n, .agg #[.int .u8 p, .int .u8 q, .int .u8 r, .int .u8 s], .string ⟨l.toArray⟩] w fun e w' => e = .returned (.bool true) ∧ Chg Non w w' := by
  have HE := Lib.hid hE
  have hlen : decide ((l.length : Int) > 100) = false := by simp; omega
  have hlm : l.length < 1000000 := by omega
  have HX := Lib.hid hx
  have HF := Lib.hid hf
  have HM := Lib.hid hm
  have HP := Lib.hid hp
  have HD := Lib.hid hd
  clear hE hx hf hm hp hd hl
  obtain ⟨⟨op2, a2, b2, c2, n2⟩, hd2⟩ : ∃ y, decI p q r s = y := ⟨_, rfl⟩
  rw [hd2] at HD
  have HD2 := Lib.hid hd2
  have HE2 : Hid (encI ⟨op2, a2, b2, c2, n2⟩ = (p, q, r, s)) := Lib.hid (by rw [← hd2]; exact enc_dec p q r s HF.out.1 HF.out.2.1 HF.out.2.2.1 HF.out.2.2.2)
  clear hd2
  have heq4 := four_eq p q r s HF.out
  go_enter Tryd.func6, Tryd.ntmps6
  go_wp2_with fail
  refine (May_v op a b c n false _ HM.out).mono ?_
  rintro e w1 ⟨rfl, hg⟩
  have HB_F := Lib.hid (blockN hg (al_2_0 _ _ _))
  have HB_X := Lib.hid (blockN hg (al_2_1 _ _ _))
  have HG : Hid (Chg Non w w1) := Lib.hid ((((Chg.refl Non w).alloc _).alloc _).then_non hg)
  clear hg
  obtain ⟨⟨z_F, c_F_0, c_F_1, c_F_2, c_F_3⟩, _⟩ := (Blk4.mk HB_F.out).all
  obtain ⟨⟨z_X, c_X_0, c_X_1, c_X_2, c_X_3, c_X_4⟩, _⟩ := (Blk5.mk HB_X.out).all
  go_wp2_with fail
  refine (Dec_v p q r s op2 a2 b2 c2 n2 _ HF.out HD2.out HD.out).mono ?_
  rintro e w2 ⟨rfl, hg⟩
  have HB_F := Lib.hid (blockN ((Chg.refl Non _).then_non hg) HB_F.out)
  have HB_X := Lib.hid (blockN ((Chg.refl Non _).then_non hg) HB_X.out)
  have HG : Hid (Chg Non w w2) := Lib.hid ((HG.out).then_non hg)
  clear hg z_F c_F_0 c_F_1 c_F_2 c_F_3 z_X c_X_0 c_X_1 c_X_2 c_X_3 c_X_4
  obtain ⟨⟨z_F, c_F_0, c_F_1, c_F_2, c_F_3⟩, _⟩ := (Blk4.mk HB_F.out).all
  obtain ⟨⟨z_X, c_X_0, c_X_1, c_X_2, c_X_3, c_X_4⟩, _⟩ := (Blk5.mk HB_X.out).all
  go_wp2_with fail
  refine (Enc_v op2 a2 b2 c2 n2 p q r s _ HD.out HE2.out).mono ?_
  rintro e w3 ⟨rfl, hg⟩
  have HB_F := Lib.hid (blockN (((Chg.refl Non _).alloc _).then_non hg) HB_F.out)
  have HB_X := Lib.hid (blockN (((Chg.refl Non _).alloc _).then_non hg) HB_X.out)
  have HB_U := Lib.hid (blockN hg (al_1_0 _ _))
  have HG : Hid (Chg Non w w3) := Lib.hid (((HG.out).alloc _).then_non hg)
  clear hg z_F c_F_0 c_F_1 c_F_2 c_F_3 z_X c_X_0 c_X_1 c_X_2 c_X_3 c_X_4
  obtain ⟨⟨z_F, c_F_0, c_F_1, c_F_2, c_F_3⟩, _⟩ := (Blk4.mk HB_F.out).all
  obtain ⟨⟨z_X, c_X_0, c_X_1, c_X_2, c_X_3, c_X_4⟩, _⟩ := (Blk5.mk HB_X.out).all
  obtain ⟨⟨z_U, c_U_0, c_U_1, c_U_2, c_U_3, c_U_4⟩, _⟩ := (Blk5.mk HB_U.out).all
  go_wp2_with fail
  refine (May_v op2 a2 b2 c2 n2 true _ HD.out).mono ?_
  rintro e w4 ⟨rfl, hg⟩
  have HB_F := Lib.hid (blockN (((Chg.refl Non _).alloc _).then_non hg) HB_F.out)
  have HB_X := Lib.hid (blockN (((Chg.refl Non _).alloc _).then_non hg) HB_X.out)
  have HB_U := Lib.hid (blockN (((Chg.refl Non _).alloc _).then_non hg) HB_U.out)
  have HB_V := Lib.hid (blockN hg (al_1_0 _ _))
  have HG : Hid (Chg Non w w4) := Lib.hid (((HG.out).alloc _).then_non hg)
  clear hg z_F c_F_0 c_F_1 c_F_2 c_F_3 z_X c_X_0 c_X_1 c_X_2 c_X_3 c_X_4 z_U c_U_0 c_U_1 c_U_2 c_U_3 c_U_4
  obtain ⟨⟨z_F, c_F_0, c_F_1, c_F_2, c_F_3⟩, _⟩ := (Blk4.mk HB_F.out).all
  obtain ⟨⟨z_X, c_X_0, c_X_1, c_X_2, c_X_3, c_X_4⟩, _⟩ := (Blk5.mk HB_X.out).all
  obtain ⟨⟨z_U, c_U_0, c_U_1, c_U_2, c_U_3, c_U_4⟩, _⟩ := (Blk5.mk HB_U.out).all
  obtain ⟨⟨z_V, c_V_0, c_V_1, c_V_2, c_V_3⟩, _⟩ := (Blk4.mk HB_V.out).all
  go_wp2_with fail
  refine (Parse_none l _ (HE.out.non (HG.out)) hlm HP.out).mono ?_
  rintro e w5 ⟨rfl, hg⟩
  have HB_F := Lib.hid (blockN ((Chg.refl Non _).then_non hg) HB_F.out)
  have HB_X := Lib.hid (blockN ((Chg.refl Non _).then_non hg) HB_X.out)
  have HB_U := Lib.hid (blockN ((Chg.refl Non _).then_non hg) HB_U.out)
  have HB_V := Lib.hid (blockN ((Chg.refl Non _).then_non hg) HB_V.out)
  have HG : Hid (Chg Non w w5) := Lib.hid ((HG.out).then_non hg)
  clear hg z_F c_F_0 c_F_1 c_F_2 c_F_3 z_X c_X_0 c_X_1 c_X_2 c_X_3 c_X_4 z_U c_U_0 c_U_1 c_U_2 c_U_3 c_U_4 z_V c_V_0 c_V_1 c_V_2 c_V_3
  obtain ⟨⟨z_F, c_F_0, c_F_1, c_F_2, c_F_3⟩, _⟩ := (Blk4.mk HB_F.out).all
  obtain ⟨⟨z_X, c_X_0, c_X_1, c_X_2, c_X_3, c_X_4⟩, _⟩ := (Blk5.mk HB_X.out).all
  obtain ⟨⟨z_U, c_U_0, c_U_1, c_U_2, c_U_3, c_U_4⟩, _⟩ := (Blk5.mk HB_U.out).all
  obtain ⟨⟨z_V, c_V_0, c_V_1, c_V_2, c_V_3⟩, _⟩ := (Blk4.mk HB_V.out).all
  go_wp2_with fail
  refine (iawake_ok _ (HE.out.non ((HG.out).alloc _))).mono ?_
  rintro e w6 ⟨rfl, hg⟩
  have HB_F := Lib.hid (blockN (((Chg.refl Non _).alloc _).then_non hg) HB_F.out)
  have HB_X := Lib.hid (blockN (((Chg.refl Non _).alloc _).then_non hg) HB_X.out)
  have HB_U := Lib.hid (blockN (((Chg.refl Non _).alloc _).then_non hg) HB_U.out)
  have HB_V := Lib.hid (blockN (((Chg.refl Non _).alloc _).then_non hg) HB_V.out)
  have HB_Q := Lib.hid (blockN hg (al_1_0 _ _))
  have HG : Hid (Chg Non w w6) := Lib.hid (((HG.out).alloc _).then_non hg)
  clear hg z_F c_F_0 c_F_1 c_F_2 c_F_3 z_X c_X_0 c_X_1 c_X_2 c_X_3 c_X_4 z_U c_U_0 c_U_1 c_U_2 c_U_3 c_U_4 z_V c_V_0 c_V_1 c_V_2 c_V_3
  obtain ⟨⟨z_F, c_F_0, c_F_1, c_F_2, c_F_3⟩, _⟩ := (Blk4.mk HB_F.out).all
  obtain ⟨⟨z_X, c_X_0, c_X_1, c_X_2, c_X_3, c_X_4⟩, _⟩ := (Blk5.mk HB_X.out).all
  obtain ⟨⟨z_U, c_U_0, c_U_1, c_U_2, c_U_3, c_U_4⟩, _⟩ := (Blk5.mk HB_U.out).all
  obtain ⟨⟨z_V, c_V_0, c_V_1, c_V_2, c_V_3⟩, _⟩ := (Blk4.mk HB_V.out).all
  obtain ⟨⟨z_Q, c_Q_0, c_Q_1, c_Q_2, c_Q_3, c_Q_4⟩, _⟩ := (Blk5.mk HB_Q.out).all
  go_wp2_with fail
  go_ret
  exact ⟨rfl, HG.out⟩

set_option maxRecDepth 100000 in
set_option maxHeartbeats 4000000 in
theorem back_001 (op a b c : Nat) (n : Int) (p q r s : Nat) (l : List UInt8) (w : World) (hE : Env w) (hx : Ins.Bd ⟨op, a, b, c, n⟩) (hf : Four (p, q, r, s)) (hl : l.length ≤ 100) (hm : mayB ⟨op, a, b, c, n⟩ = false) (hd : mayB (decI p q r s) = false) (y : Ins) (hp : parseC l = some y) :
    Calls Tryd.prog 6 #[.int .u8 op, .int .u8 a, .int .u8 b, .int .u8 c, .int .i64 n, .agg #[.int .u8 p, .int .u8 q, .int .u8 r, .int .u8 s], .string ⟨l.toArray⟩] w fun e w' => e = .returned (.bool true) ∧ Chg Non w w' := by
  have HE := Lib.hid hE
  have hlen : decide ((l.length : Int) > 100) = false := by simp; omega
  have hlm : l.length < 1000000 := by omega
  have HX := Lib.hid hx
  have HF := Lib.hid hf
  have HM := Lib.hid hm
  have HP := Lib.hid hp
  have HD := Lib.hid hd
  clear hE hx hf hm hp hd hl
  obtain ⟨op3, a3, b3, c3, n3⟩ := y
  have HT3 := Lib.hid (parseC_some HP.out)
  have hss : (l == l) = true := by simp
  go_enter Tryd.func6, Tryd.ntmps6
  go_wp2_with fail
  refine (May_v op a b c n false _ HM.out).mono ?_
  rintro e w1 ⟨rfl, hg⟩
  have HB_F := Lib.hid (blockN hg (al_2_0 _ _ _))
  have HB_X := Lib.hid (blockN hg (al_2_1 _ _ _))
  have HG : Hid (Chg Non w w1) := Lib.hid ((((Chg.refl Non w).alloc _).alloc _).then_non hg)
  clear hg
  obtain ⟨⟨z_F, c_F_0, c_F_1, c_F_2, c_F_3⟩, _⟩ := (Blk4.mk HB_F.out).all
  obtain ⟨⟨z_X, c_X_0, c_X_1, c_X_2, c_X_3, c_X_4⟩, _⟩ := (Blk5.mk HB_X.out).all
  go_wp2_with fail
  refine (Dec_n p q r s _ HF.out HD.out).mono ?_
  rintro e w2 ⟨rfl, hg⟩
  have HB_F := Lib.hid (blockN ((Chg.refl Non _).then_non hg) HB_F.out)
  have HB_X := Lib.hid (blockN ((Chg.refl Non _).then_non hg) HB_X.out)
  have HG : Hid (Chg Non w w2) := Lib.hid ((HG.out).then_non hg)
  clear hg z_F c_F_0 c_F_1 c_F_2 c_F_3 z_X c_X_0 c_X_1 c_X_2 c_X_3 c_X_4
  obtain ⟨⟨z_F, c_F_0, c_F_1, c_F_2, c_F_3⟩, _⟩ := (Blk4.mk HB_F.out).all
  obtain ⟨⟨z_X, c_X_0, c_X_1, c_X_2, c_X_3, c_X_4⟩, _⟩ := (Blk5.mk HB_X.out).all
  go_wp2_with fail
  refine (Parse_v l op3 a3 b3 c3 n3 _ (HE.out.non ((HG.out).alloc _)) hlm HP.out).mono ?_
  rintro e w3 ⟨rfl, hg⟩
  have HB_F := Lib.hid (blockN (((Chg.refl Non _).alloc _).then_non hg) HB_F.out)
  have HB_X := Lib.hid (blockN (((Chg.refl Non _).alloc _).then_non hg) HB_X.out)
  have HB_U := Lib.hid (blockN hg (al_1_0 _ _))
  have HG : Hid (Chg Non w w3) := Lib.hid (((HG.out).alloc _).then_non hg)
  clear hg z_F c_F_0 c_F_1 c_F_2 c_F_3 z_X c_X_0 c_X_1 c_X_2 c_X_3 c_X_4
  obtain ⟨⟨z_F, c_F_0, c_F_1, c_F_2, c_F_3⟩, _⟩ := (Blk4.mk HB_F.out).all
  obtain ⟨⟨z_X, c_X_0, c_X_1, c_X_2, c_X_3, c_X_4⟩, _⟩ := (Blk5.mk HB_X.out).all
  obtain ⟨⟨z_U, c_U_0, c_U_1, c_U_2, c_U_3, c_U_4⟩, _⟩ := (Blk5.mk HB_U.out).all
  go_wp2_with fail
  refine (Text_v op3 a3 b3 c3 n3 l _ (HE.out.non ((HG.out).alloc _)) HT3.out.2).mono ?_
  rintro e w4 ⟨rfl, hg⟩
  have HB_F := Lib.hid (blockN (((Chg.refl Non _).alloc _).then_non hg) HB_F.out)
  have HB_X := Lib.hid (blockN (((Chg.refl Non _).alloc _).then_non hg) HB_X.out)
  have HB_U := Lib.hid (blockN (((Chg.refl Non _).alloc _).then_non hg) HB_U.out)
  have HB_Q := Lib.hid (blockN hg (al_1_0 _ _))
  have HG : Hid (Chg Non w w4) := Lib.hid (((HG.out).alloc _).then_non hg)
  clear hg z_F c_F_0 c_F_1 c_F_2 c_F_3 z_X c_X_0 c_X_1 c_X_2 c_X_3 c_X_4 z_U c_U_0 c_U_1 c_U_2 c_U_3 c_U_4
  obtain ⟨⟨z_F, c_F_0, c_F_1, c_F_2, c_F_3⟩, _⟩ := (Blk4.mk HB_F.out).all
  obtain ⟨⟨z_X, c_X_0, c_X_1, c_X_2, c_X_3, c_X_4⟩, _⟩ := (Blk5.mk HB_X.out).all
  obtain ⟨⟨z_U, c_U_0, c_U_1, c_U_2, c_U_3, c_U_4⟩, _⟩ := (Blk5.mk HB_U.out).all
  obtain ⟨⟨z_Q, c_Q_0, c_Q_1, c_Q_2, c_Q_3, c_Q_4⟩, _⟩ := (Blk5.mk HB_Q.out).all
  go_wp2_with fail
  refine (May_v op3 a3 b3 c3 n3 true _ HT3.out.1).mono ?_
  rintro e w5 ⟨rfl, hg⟩
  have HB_F := Lib.hid (blockN ((Chg.refl Non _).then_non hg) HB_F.out)
  have HB_X := Lib.hid (blockN ((Chg.refl Non _).then_non hg) HB_X.out)
  have HB_U := Lib.hid (blockN ((Chg.refl Non _).then_non hg) HB_U.out)
  have HB_Q := Lib.hid (blockN ((Chg.refl Non _).then_non hg) HB_Q.out)
  have HG : Hid (Chg Non w w5) := Lib.hid ((HG.out).then_non hg)
  clear hg z_F c_F_0 c_F_1 c_F_2 c_F_3 z_X c_X_0 c_X_1 c_X_2 c_X_3 c_X_4 z_U c_U_0 c_U_1 c_U_2 c_U_3 c_U_4 z_Q c_Q_0 c_Q_1 c_Q_2 c_Q_3 c_Q_4
  obtain ⟨⟨z_F, c_F_0, c_F_1, c_F_2, c_F_3⟩, _⟩ := (Blk4.mk HB_F.out).all
  obtain ⟨⟨z_X, c_X_0, c_X_1, c_X_2, c_X_3, c_X_4⟩, _⟩ := (Blk5.mk HB_X.out).all
  obtain ⟨⟨z_U, c_U_0, c_U_1, c_U_2, c_U_3, c_U_4⟩, _⟩ := (Blk5.mk HB_U.out).all
  obtain ⟨⟨z_Q, c_Q_0, c_Q_1, c_Q_2, c_Q_3, c_Q_4⟩, _⟩ := (Blk5.mk HB_Q.out).all
  go_wp2_with fail
  refine (iawake_ok _ (HE.out.non (HG.out))).mono ?_
  rintro e w6 ⟨rfl, hg⟩
  have HB_F := Lib.hid (blockN ((Chg.refl Non _).then_non hg) HB_F.out)
  have HB_X := Lib.hid (blockN ((Chg.refl Non _).then_non hg) HB_X.out)
  have HB_U := Lib.hid (blockN ((Chg.refl Non _).then_non hg) HB_U.out)
  have HB_Q := Lib.hid (blockN ((Chg.refl Non _).then_non hg) HB_Q.out)
  have HG : Hid (Chg Non w w6) := Lib.hid ((HG.out).then_non hg)
  clear hg z_F c_F_0 c_F_1 c_F_2 c_F_3 z_X c_X_0 c_X_1 c_X_2 c_X_3 c_X_4 z_U c_U_0 c_U_1 c_U_2 c_U_3 c_U_4 z_Q c_Q_0 c_Q_1 c_Q_2 c_Q_3 c_Q_4
  obtain ⟨⟨z_F, c_F_0, c_F_1, c_F_2, c_F_3⟩, _⟩ := (Blk4.mk HB_F.out).all
  obtain ⟨⟨z_X, c_X_0, c_X_1, c_X_2, c_X_3, c_X_4⟩, _⟩ := (Blk5.mk HB_X.out).all
  obtain ⟨⟨z_U, c_U_0, c_U_1, c_U_2, c_U_3, c_U_4⟩, _⟩ := (Blk5.mk HB_U.out).all
  obtain ⟨⟨z_Q, c_Q_0, c_Q_1, c_Q_2, c_Q_3, c_Q_4⟩, _⟩ := (Blk5.mk HB_Q.out).all
  go_wp2_with fail
  go_ret
  exact ⟨rfl, HG.out⟩

set_option maxRecDepth 100000 in
set_option maxHeartbeats 4000000 in
theorem back_000 (op a b c : Nat) (n : Int) (p q r s : Nat) (l : List UInt8) (w : World) (hE : Env w) (hx : Ins.Bd ⟨op, a, b, c, n⟩) (hf : Four (p, q, r, s)) (hl : l.length ≤ 100) (hm : mayB ⟨op, a, b, c, n⟩ = false) (hd : mayB (decI p q r s) = false) (hp : parseC l = none) :
    Calls Tryd.prog 6 #[.int .u8 op, .int .u8 a, .int .u8 b, .int .u8 c, .int .i64 n, .agg #[.int .u8 p, .int .u8 q, .int .u8 r, .int .u8 s], .string ⟨l.toArray⟩] w fun e w' => e = .returned (.bool true) ∧ Chg Non w w' := by
  have HE := Lib.hid hE
  have hlen : decide ((l.length : Int) > 100) = false := by simp; omega
  have hlm : l.length < 1000000 := by omega
  have HX := Lib.hid hx
  have HF := Lib.hid hf
  have HM := Lib.hid hm
  have HP := Lib.hid hp
  have HD := Lib.hid hd
  clear hE hx hf hm hp hd hl
  go_enter Tryd.func6, Tryd.ntmps6
  go_wp2_with fail
  refine (May_v op a b c n false _ HM.out).mono ?_
  rintro e w1 ⟨rfl, hg⟩
  have HB_F := Lib.hid (blockN hg (al_2_0 _ _ _))
  have HB_X := Lib.hid (blockN hg (al_2_1 _ _ _))
  have HG : Hid (Chg Non w w1) := Lib.hid ((((Chg.refl Non w).alloc _).alloc _).then_non hg)
  clear hg
  obtain ⟨⟨z_F, c_F_0, c_F_1, c_F_2, c_F_3⟩, _⟩ := (Blk4.mk HB_F.out).all
  obtain ⟨⟨z_X, c_X_0, c_X_1, c_X_2, c_X_3, c_X_4⟩, _⟩ := (Blk5.mk HB_X.out).all
  go_wp2_with fail
  refine (Dec_n p q r s _ HF.out HD.out).mono ?_
  rintro e w2 ⟨rfl, hg⟩
  have HB_F := Lib.hid (blockN ((Chg.refl Non _).then_non hg) HB_F.out)
  have HB_X := Lib.hid (blockN ((Chg.refl Non _).then_non hg) HB_X.out)
  have HG : Hid (Chg Non w w2) := Lib.hid ((HG.out).then_non hg)
  clear hg z_F c_F_0 c_F_1 c_F_2 c_F_3 z_X c_X_0 c_X_1 c_X_2 c_X_3 c_X_4
  obtain ⟨⟨z_F, c_F_0, c_F_1, c_F_2, c_F_3⟩, _⟩ := (Blk4.mk HB_F.out).all
  obtain ⟨⟨z_X, c_X_0, c_X_1, c_X_2, c_X_3, c_X_4⟩, _⟩ := (Blk5.mk HB_X.out).all
  go_wp2_with fail
  refine (Parse_none l _ (HE.out.non ((HG.out).alloc _)) hlm HP.out).mono ?_
  rintro e w3 ⟨rfl, hg⟩
  have HB_F := Lib.hid (blockN (((Chg.refl Non _).alloc _).then_non hg) HB_F.out)
  have HB_X := Lib.hid (blockN (((Chg.refl Non _).alloc _).then_non hg) HB_X.out)
  have HB_U := Lib.hid (blockN hg (al_1_0 _ _))
  have HG : Hid (Chg Non w w3) := Lib.hid (((HG.out).alloc _).then_non hg)
  clear hg z_F c_F_0 c_F_1 c_F_2 c_F_3 z_X c_X_0 c_X_1 c_X_2 c_X_3 c_X_4
  obtain ⟨⟨z_F, c_F_0, c_F_1, c_F_2, c_F_3⟩, _⟩ := (Blk4.mk HB_F.out).all
  obtain ⟨⟨z_X, c_X_0, c_X_1, c_X_2, c_X_3, c_X_4⟩, _⟩ := (Blk5.mk HB_X.out).all
  obtain ⟨⟨z_U, c_U_0, c_U_1, c_U_2, c_U_3, c_U_4⟩, _⟩ := (Blk5.mk HB_U.out).all
  go_wp2_with fail
  refine (iawake_ok _ (HE.out.non ((HG.out).alloc _))).mono ?_
  rintro e w4 ⟨rfl, hg⟩
  have HB_F := Lib.hid (blockN (((Chg.refl Non _).alloc _).then_non hg) HB_F.out)
  have HB_X := Lib.hid (blockN (((Chg.refl Non _).alloc _).then_non hg) HB_X.out)
  have HB_U := Lib.hid (blockN (((Chg.refl Non _).alloc _).then_non hg) HB_U.out)
  have HB_Q := Lib.hid (blockN hg (al_1_0 _ _))
  have HG : Hid (Chg Non w w4) := Lib.hid (((HG.out).alloc _).then_non hg)
  clear hg z_F c_F_0 c_F_1 c_F_2 c_F_3 z_X c_X_0 c_X_1 c_X_2 c_X_3 c_X_4 z_U c_U_0 c_U_1 c_U_2 c_U_3 c_U_4
  obtain ⟨⟨z_F, c_F_0, c_F_1, c_F_2, c_F_3⟩, _⟩ := (Blk4.mk HB_F.out).all
  obtain ⟨⟨z_X, c_X_0, c_X_1, c_X_2, c_X_3, c_X_4⟩, _⟩ := (Blk5.mk HB_X.out).all
  obtain ⟨⟨z_U, c_U_0, c_U_1, c_U_2, c_U_3, c_U_4⟩, _⟩ := (Blk5.mk HB_U.out).all
  obtain ⟨⟨z_Q, c_Q_0, c_Q_1, c_Q_2, c_Q_3, c_Q_4⟩, _⟩ := (Blk5.mk HB_Q.out).all
  go_wp2_with fail
  go_ret
  exact ⟨rfl, HG.out⟩

set_option maxRecDepth 100000 in
set_option maxHeartbeats 4000000 in
theorem back_long (v0 v1 v2 v3 v4 : Value) (p q r s : Value) (l : List UInt8) (w : World) (hE : Env w) (hl : 100 < l.length) (hm : l.length ≤ maxLen) :
    Calls Tryd.prog 6 #[v0, v1, v2, v3, v4, .agg #[p, q, r, s], .string ⟨l.toArray⟩] w fun e w' => e = .returned (.bool true) ∧ Chg Non w w' := by
  have hlen : decide ((l.length : Int) > 100) = true := by simp; omega
  have HE := Lib.hid hE
  clear hE hl hm
  go_enter Tryd.func6, Tryd.ntmps6
  go_wp2_with fail
  refine (iawake_ok _ (HE.out.non ((Chg.refl Non _).alloc _))).mono ?_
  rintro e w1 ⟨rfl, hg⟩
  go_wp2_with fail
  go_ret
  exact ⟨rfl, ((Chg.refl Non _).alloc _).then_non hg⟩

theorem IsaBack_ok (op a b c : Nat) (n : Int) (p q r s : Nat) (l : List UInt8) (w : World) (hE : Env w) (hx : Ins.Bd ⟨op, a, b, c, n⟩) (hf : Four (p, q, r, s)) (hm : l.length ≤ maxLen) :
    Calls Tryd.prog 6 #[.int .u8 op, .int .u8 a, .int .u8 b, .int .u8 c, .int .i64 n, .agg #[.int .u8 p, .int .u8 q, .int .u8 r, .int .u8 s], .string ⟨l.toArray⟩] w fun e w' => e = .returned (.bool true) ∧ Chg Non w w' := by
  by_cases hl : 100 < l.length
  · exact back_long _ _ _ _ _ _ _ _ _ l w hE hl hm
  · have hl' : l.length ≤ 100 := by omega
    cases h1 : mayB ⟨op, a, b, c, n⟩ <;> cases h2 : mayB (decI p q r s) <;> cases h3 : parseC l
    · exact back_000 op a b c n p q r s l w hE hx hf hl' h1 h2 h3
    · exact back_001 op a b c n p q r s l w hE hx hf hl' h1 h2 _ h3
    · exact back_010 op a b c n p q r s l w hE hx hf hl' h1 h2 h3
    · exact back_011 op a b c n p q r s l w hE hx hf hl' h1 h2 _ h3
    · exact back_100 op a b c n p q r s l w hE hx hf hl' h1 h2 h3
    · exact back_101 op a b c n p q r s l w hE hx hf hl' h1 h2 _ h3
    · exact back_110 op a b c n p q r s l w hE hx hf hl' h1 h2 h3
    · exact back_111 op a b c n p q r s l w hE hx hf hl' h1 h2 _ h3
end Go.Proofs.YtpcmnphohneddaaDoor
