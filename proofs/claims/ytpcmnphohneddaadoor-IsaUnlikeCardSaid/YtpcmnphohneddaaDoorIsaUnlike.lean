/- Walk of citadellaw19.IsaUnlike. (Written by wip/gen_isaunlike.py.) -/
import Derived.Test.YtpcmnphohneddaaDoorIsa12
import Derived.Deep.RegionHeld3
namespace Go.Proofs.YtpcmnphohneddaaDoor
open Go.RowKit
set_option linter.unusedVariables false

set_option maxRecDepth 100000 in
theorem unlike_same {op a b op2 a2 b2 c2 : Nat} {n n2 : Int} {e1 e2 e3 e4 p q r s : Nat} {tx ty : List UInt8} (hm : mayB ⟨op, a, b, 0, n⟩ = true) (hd : mayB ⟨op2, a2, b2, c2, n2⟩ = true)
    (he : encI ⟨op, a, b, 0, n⟩ = (e1, e2, e3, e4)) (he2 : encI ⟨op2, a2, b2, c2, n2⟩ = (p, q, r, s)) (hx : textL ⟨op, a, b, 0, n⟩ = tx) (hy : textL ⟨op2, a2, b2, c2, n2⟩ = ty) (hf : Four (p, q, r, s)) :
    ∃ q1 : Bool, (∀ w, (binOp .eql 24 (.agg #[.int .u8 e1, .int .u8 e2, .int .u8 e3, .int .u8 e4]) (.agg #[.int .u8 p, .int .u8 q, .int .u8 r, .int .u8 s])).run Tryd.prog w = .ok (.bool q1) w) ∧
      (∀ w, (binOp .eql 25 (.agg #[.int .u8 op, .int .u8 a, .int .u8 b, .int .u8 0, .int .i64 n]) (.agg #[.int .u8 op2, .int .u8 a2, .int .u8 b2, .int .u8 c2, .int .i64 n2])).run Tryd.prog w = .ok (.bool q1) w) ∧ (tx == ty) = q1 := by
  obtain ⟨h4, hde⟩ := enc_four hm he
  obtain ⟨_, hde2⟩ := enc_four hd he2
  refine ⟨decide ((⟨op, a, b, 0, n⟩ : Ins) = ⟨op2, a2, b2, c2, n2⟩), fun w => ?_, fun w => ?_, ?_⟩
  · have h := (eq_four (e1, e2, e3, e4) (p, q, r, s) h4 hf w).1
    have e : decide ((e1, e2, e3, e4) = (p, q, r, s)) = decide ((⟨op, a, b, 0, n⟩ : Ins) = ⟨op2, a2, b2, c2, n2⟩) := by
      apply decide_eq_decide.2
      constructor
      · intro h
        injection h with h1 h
        injection h with h2 h
        injection h with h3 h4
        subst h1 h2 h3 h4
        rw [← hde, ← hde2]
      · intro h
        rw [← he, ← he2, h]
    rw [e] at h
    exact h
  · have h := (eq_ins ⟨op, a, b, 0, n⟩ ⟨op2, a2, b2, c2, n2⟩ (May.bd hm) (May.bd hd) w).1
    simpa [insC] using h
  · rw [Bool.eq_iff_iff, beq_iff_eq, decide_eq_true_iff, ← hx, ← hy]
    exact ⟨fun h => text_inj hm hd h, fun h => by rw [h]⟩

set_option maxRecDepth 100000 in
set_option maxHeartbeats 4000000 in
theorem unlike_01 (op a b : Nat) (n : Int) (p q r s : Nat) (w : World) (hE : Env w) (hx : Ins.Bd ⟨op, a, b, 0, n⟩) (hf : Four (p, q, r, s)) (hm : mayB ⟨op, a, b, 0, n⟩ = false) (hd : mayB (decI p q r s) = true) :
    Calls Tryd.prog 7 #[.int .u8 op, .int .u8 a, .int .u8 b, .int .i64 n, .agg #[.int .u8 p, .int .u8 q, .int .u8 r, .int .u8 s]] w fun e w' => e = .returned (.bool true) ∧ Chg Non w w' := by
  have HE := Lib.hid hE
  have HX := Lib.hid hx
  have HF := Lib.hid hf
  have HM := Lib.hid hm
  have HD := Lib.hid hd
  clear hE hx hf hm hd
  obtain ⟨⟨op2, a2, b2, c2, n2⟩, hd2⟩ : ∃ y, decI p q r s = y := ⟨_, rfl⟩
  rw [hd2] at HD
  have HD2 := Lib.hid hd2
  have HE2 : Hid (encI ⟨op2, a2, b2, c2, n2⟩ = (p, q, r, s)) := Lib.hid (by rw [← hd2]; exact enc_dec p q r s HF.out.1 HF.out.2.1 HF.out.2.2.1 HF.out.2.2.2)
  clear hd2
  go_enter Tryd.func7, Tryd.ntmps7
  go_wp2_with fail
  refine (Dec_v p q r s op2 a2 b2 c2 n2 _ HF.out HD2.out HD.out).mono ?_
  rintro e w1 ⟨rfl, hg⟩
  have HB_F := Lib.hid (blockN hg (al_2_0 _ _ _))
  have HB_X := Lib.hid (blockN hg (al_2_1 _ _ _))
  have HG : Hid (Chg Non w w1) := Lib.hid ((((Chg.refl Non w).alloc _).alloc _).then_non hg)
  clear hg
  obtain ⟨⟨z_F, c_F_0, c_F_1, c_F_2, c_F_3⟩, _⟩ := (Blk4.mk HB_F.out).all
  obtain ⟨⟨z_X, c_X_0, c_X_1, c_X_2, c_X_3, c_X_4⟩, _⟩ := (Blk5.mk HB_X.out).all
  go_wp2_with fail
  refine (May_v op a b 0 n false _ HM.out).mono ?_
  rintro e w2 ⟨rfl, hg⟩
  have HB_F := Lib.hid (blockN (((Chg.refl Non _).alloc _).then_non hg) HB_F.out)
  have HB_X := Lib.hid (blockN (((Chg.refl Non _).alloc _).then_non hg) HB_X.out)
  have HB_Y := Lib.hid (blockN hg (al_1_0 _ _))
  have HG : Hid (Chg Non w w2) := Lib.hid (((HG.out).alloc _).then_non hg)
  clear hg z_F c_F_0 c_F_1 c_F_2 c_F_3 z_X c_X_0 c_X_1 c_X_2 c_X_3 c_X_4
  obtain ⟨⟨z_F, c_F_0, c_F_1, c_F_2, c_F_3⟩, _⟩ := (Blk4.mk HB_F.out).all
  obtain ⟨⟨z_X, c_X_0, c_X_1, c_X_2, c_X_3, c_X_4⟩, _⟩ := (Blk5.mk HB_X.out).all
  obtain ⟨⟨z_Y, c_Y_0, c_Y_1, c_Y_2, c_Y_3, c_Y_4⟩, _⟩ := (Blk5.mk HB_Y.out).all
  go_wp2_with fail
  refine (iawake_ok _ (HE.out.non HG.out)).mono ?_
  rintro e w3 ⟨rfl, hg⟩
  have HB_F := Lib.hid (blockN ((Chg.refl Non _).then_non hg) HB_F.out)
  have HB_X := Lib.hid (blockN ((Chg.refl Non _).then_non hg) HB_X.out)
  have HB_Y := Lib.hid (blockN ((Chg.refl Non _).then_non hg) HB_Y.out)
  have HG : Hid (Chg Non w w3) := Lib.hid ((HG.out).then_non hg)
  clear hg z_F c_F_0 c_F_1 c_F_2 c_F_3 z_X c_X_0 c_X_1 c_X_2 c_X_3 c_X_4 z_Y c_Y_0 c_Y_1 c_Y_2 c_Y_3 c_Y_4
  obtain ⟨⟨z_F, c_F_0, c_F_1, c_F_2, c_F_3⟩, _⟩ := (Blk4.mk HB_F.out).all
  obtain ⟨⟨z_X, c_X_0, c_X_1, c_X_2, c_X_3, c_X_4⟩, _⟩ := (Blk5.mk HB_X.out).all
  obtain ⟨⟨z_Y, c_Y_0, c_Y_1, c_Y_2, c_Y_3, c_Y_4⟩, _⟩ := (Blk5.mk HB_Y.out).all
  go_wp2_with fail
  go_ret
  exact ⟨rfl, HG.out⟩

set_option maxRecDepth 100000 in
set_option maxHeartbeats 4000000 in
theorem unlike_00 (op a b : Nat) (n : Int) (p q r s : Nat) (w : World) (hE : Env w) (hx : Ins.Bd ⟨op, a, b, 0, n⟩) (hf : Four (p, q, r, s)) (hm : mayB ⟨op, a, b, 0, n⟩ = false) (hd : mayB (decI p q r s) = false) :
    Calls Tryd.prog 7 #[.int .u8 op, .int .u8 a, .int .u8 b, .int .i64 n, .agg #[.int .u8 p, .int .u8 q, .int .u8 r, .int .u8 s]] w fun e w' => e = .returned (.bool true) ∧ Chg Non w w' := by
  have HE := Lib.hid hE
  have HX := Lib.hid hx
  have HF := Lib.hid hf
  have HM := Lib.hid hm
  have HD := Lib.hid hd
  clear hE hx hf hm hd
  go_enter Tryd.func7, Tryd.ntmps7
  go_wp2_with fail
  refine (Dec_n p q r s _ HF.out HD.out).mono ?_
  rintro e w1 ⟨rfl, hg⟩
  have HB_F := Lib.hid (blockN hg (al_2_0 _ _ _))
  have HB_X := Lib.hid (blockN hg (al_2_1 _ _ _))
  have HG : Hid (Chg Non w w1) := Lib.hid ((((Chg.refl Non w).alloc _).alloc _).then_non hg)
  clear hg
  obtain ⟨⟨z_F, c_F_0, c_F_1, c_F_2, c_F_3⟩, _⟩ := (Blk4.mk HB_F.out).all
  obtain ⟨⟨z_X, c_X_0, c_X_1, c_X_2, c_X_3, c_X_4⟩, _⟩ := (Blk5.mk HB_X.out).all
  go_wp2_with fail
  refine (May_v op a b 0 n false _ HM.out).mono ?_
  rintro e w2 ⟨rfl, hg⟩
  have HB_F := Lib.hid (blockN (((Chg.refl Non _).alloc _).then_non hg) HB_F.out)
  have HB_X := Lib.hid (blockN (((Chg.refl Non _).alloc _).then_non hg) HB_X.out)
  have HB_Y := Lib.hid (blockN hg (al_1_0 _ _))
  have HG : Hid (Chg Non w w2) := Lib.hid (((HG.out).alloc _).then_non hg)
  clear hg z_F c_F_0 c_F_1 c_F_2 c_F_3 z_X c_X_0 c_X_1 c_X_2 c_X_3 c_X_4
  obtain ⟨⟨z_F, c_F_0, c_F_1, c_F_2, c_F_3⟩, _⟩ := (Blk4.mk HB_F.out).all
  obtain ⟨⟨z_X, c_X_0, c_X_1, c_X_2, c_X_3, c_X_4⟩, _⟩ := (Blk5.mk HB_X.out).all
  obtain ⟨⟨z_Y, c_Y_0, c_Y_1, c_Y_2, c_Y_3, c_Y_4⟩, _⟩ := (Blk5.mk HB_Y.out).all
  go_wp2_with fail
  refine (iawake_ok _ (HE.out.non HG.out)).mono ?_
  rintro e w3 ⟨rfl, hg⟩
  have HB_F := Lib.hid (blockN ((Chg.refl Non _).then_non hg) HB_F.out)
  have HB_X := Lib.hid (blockN ((Chg.refl Non _).then_non hg) HB_X.out)
  have HB_Y := Lib.hid (blockN ((Chg.refl Non _).then_non hg) HB_Y.out)
  have HG : Hid (Chg Non w w3) := Lib.hid ((HG.out).then_non hg)
  clear hg z_F c_F_0 c_F_1 c_F_2 c_F_3 z_X c_X_0 c_X_1 c_X_2 c_X_3 c_X_4 z_Y c_Y_0 c_Y_1 c_Y_2 c_Y_3 c_Y_4
  obtain ⟨⟨z_F, c_F_0, c_F_1, c_F_2, c_F_3⟩, _⟩ := (Blk4.mk HB_F.out).all
  obtain ⟨⟨z_X, c_X_0, c_X_1, c_X_2, c_X_3, c_X_4⟩, _⟩ := (Blk5.mk HB_X.out).all
  obtain ⟨⟨z_Y, c_Y_0, c_Y_1, c_Y_2, c_Y_3, c_Y_4⟩, _⟩ := (Blk5.mk HB_Y.out).all
  go_wp2_with fail
  go_ret
  exact ⟨rfl, HG.out⟩

set_option maxRecDepth 100000 in
set_option maxHeartbeats 4000000 in
theorem unlike_10 (op a b : Nat) (n : Int) (p q r s : Nat) (w : World) (hE : Env w) (hx : Ins.Bd ⟨op, a, b, 0, n⟩) (hf : Four (p, q, r, s)) (hm : mayB ⟨op, a, b, 0, n⟩ = true) (hd : mayB (decI p q r s) = false) :
    Calls Tryd.prog 7 #[.int .u8 op, .int .u8 a, .int .u8 b, .int .i64 n, .agg #[.int .u8 p, .int .u8 q, .int .u8 r, .int .u8 s]] w fun e w' => e = .returned (.bool true) ∧ Chg Non w w' := by
  have HE := Lib.hid hE
  have HX := Lib.hid hx
  have HF := Lib.hid hf
  have HM := Lib.hid hm
  have HD := Lib.hid hd
  clear hE hx hf hm hd
  go_enter Tryd.func7, Tryd.ntmps7
  go_wp2_with fail
  refine (Dec_n p q r s _ HF.out HD.out).mono ?_
  rintro e w1 ⟨rfl, hg⟩
  have HB_F := Lib.hid (blockN hg (al_2_0 _ _ _))
  have HB_X := Lib.hid (blockN hg (al_2_1 _ _ _))
  have HG : Hid (Chg Non w w1) := Lib.hid ((((Chg.refl Non w).alloc _).alloc _).then_non hg)
  clear hg
  obtain ⟨⟨z_F, c_F_0, c_F_1, c_F_2, c_F_3⟩, _⟩ := (Blk4.mk HB_F.out).all
  obtain ⟨⟨z_X, c_X_0, c_X_1, c_X_2, c_X_3, c_X_4⟩, _⟩ := (Blk5.mk HB_X.out).all
  go_wp2_with fail
  refine (May_v op a b 0 n true _ HM.out).mono ?_
  rintro e w2 ⟨rfl, hg⟩
  have HB_F := Lib.hid (blockN (((Chg.refl Non _).alloc _).then_non hg) HB_F.out)
  have HB_X := Lib.hid (blockN (((Chg.refl Non _).alloc _).then_non hg) HB_X.out)
  have HB_Y := Lib.hid (blockN hg (al_1_0 _ _))
  have HG : Hid (Chg Non w w2) := Lib.hid (((HG.out).alloc _).then_non hg)
  clear hg z_F c_F_0 c_F_1 c_F_2 c_F_3 z_X c_X_0 c_X_1 c_X_2 c_X_3 c_X_4
  obtain ⟨⟨z_F, c_F_0, c_F_1, c_F_2, c_F_3⟩, _⟩ := (Blk4.mk HB_F.out).all
  obtain ⟨⟨z_X, c_X_0, c_X_1, c_X_2, c_X_3, c_X_4⟩, _⟩ := (Blk5.mk HB_X.out).all
  obtain ⟨⟨z_Y, c_Y_0, c_Y_1, c_Y_2, c_Y_3, c_Y_4⟩, _⟩ := (Blk5.mk HB_Y.out).all
  go_wp2_with fail
  refine (iawake_ok _ (HE.out.non HG.out)).mono ?_
  rintro e w3 ⟨rfl, hg⟩
  have HB_F := Lib.hid (blockN ((Chg.refl Non _).then_non hg) HB_F.out)
  have HB_X := Lib.hid (blockN ((Chg.refl Non _).then_non hg) HB_X.out)
  have HB_Y := Lib.hid (blockN ((Chg.refl Non _).then_non hg) HB_Y.out)
  have HG : Hid (Chg Non w w3) := Lib.hid ((HG.out).then_non hg)
  clear hg z_F c_F_0 c_F_1 c_F_2 c_F_3 z_X c_X_0 c_X_1 c_X_2 c_X_3 c_X_4 z_Y c_Y_0 c_Y_1 c_Y_2 c_Y_3 c_Y_4
  obtain ⟨⟨z_F, c_F_0, c_F_1, c_F_2, c_F_3⟩, _⟩ := (Blk4.mk HB_F.out).all
  obtain ⟨⟨z_X, c_X_0, c_X_1, c_X_2, c_X_3, c_X_4⟩, _⟩ := (Blk5.mk HB_X.out).all
  obtain ⟨⟨z_Y, c_Y_0, c_Y_1, c_Y_2, c_Y_3, c_Y_4⟩, _⟩ := (Blk5.mk HB_Y.out).all
  go_wp2_with fail
  go_ret
  exact ⟨rfl, HG.out⟩

set_option maxRecDepth 100000 in
set_option maxHeartbeats 4000000 in
theorem unlike_11 (op a b : Nat) (n : Int) (p q r s : Nat) (w : World) (hE : Env w) (hx : Ins.Bd ⟨op, a, b, 0, n⟩) (hf : Four (p, q, r, s)) (hm : mayB ⟨op, a, b, 0, n⟩ = true) (hd : mayB (decI p q r s) = true) :
    Calls Tryd.prog 7 #[.int .u8 op, .int .u8 a, .int .u8 b, .int .i64 n, .agg #[.int .u8 p, .int .u8 q, .int .u8 r, .int .u8 s]] w fun e w' => e = .returned (.bool true) ∧ Chg Non w w' := by
  have HE := Lib.hid hE
  have HX := Lib.hid hx
  have HF := Lib.hid hf
  have HM := Lib.hid hm
  have HD := Lib.hid hd
  clear hE hx hf hm hd
  obtain ⟨⟨op2, a2, b2, c2, n2⟩, hd2⟩ : ∃ y, decI p q r s = y := ⟨_, rfl⟩
  rw [hd2] at HD
  have HD2 := Lib.hid hd2
  have HE2 : Hid (encI ⟨op2, a2, b2, c2, n2⟩ = (p, q, r, s)) := Lib.hid (by rw [← hd2]; exact enc_dec p q r s HF.out.1 HF.out.2.1 HF.out.2.2.1 HF.out.2.2.2)
  clear hd2
  obtain ⟨⟨e1, e2, e3, e4⟩, he⟩ : ∃ f, encI ⟨op, a, b, 0, n⟩ = f := ⟨_, rfl⟩
  have HEn := Lib.hid he
  have HFo := Lib.hid (enc_four HM.out he)
  clear he
  obtain ⟨tx, htx⟩ : ∃ t, textL ⟨op, a, b, 0, n⟩ = t := ⟨_, rfl⟩
  obtain ⟨ty, hty⟩ : ∃ t, textL ⟨op2, a2, b2, c2, n2⟩ = t := ⟨_, rfl⟩
  have HTx := Lib.hid htx
  have HTy := Lib.hid hty
  obtain ⟨q1, k1, k2, k3⟩ := unlike_same HM.out HD.out HEn.out HE2.out htx hty HF.out
  clear htx hty
  have K1 := Lib.hid k1
  have K2 := Lib.hid k2
  clear k1 k2
  go_enter Tryd.func7, Tryd.ntmps7
  go_wp2_with fail
  refine (Dec_v p q r s op2 a2 b2 c2 n2 _ HF.out HD2.out HD.out).mono ?_
  rintro e w1 ⟨rfl, hg⟩
  have HB_F := Lib.hid (blockN hg (al_2_0 _ _ _))
  have HB_X := Lib.hid (blockN hg (al_2_1 _ _ _))
  have HG : Hid (Chg Non w w1) := Lib.hid ((((Chg.refl Non w).alloc _).alloc _).then_non hg)
  clear hg
  obtain ⟨⟨z_F, c_F_0, c_F_1, c_F_2, c_F_3⟩, _⟩ := (Blk4.mk HB_F.out).all
  obtain ⟨⟨z_X, c_X_0, c_X_1, c_X_2, c_X_3, c_X_4⟩, _⟩ := (Blk5.mk HB_X.out).all
  go_wp2_with fail
  refine (May_v op a b 0 n true _ HM.out).mono ?_
  rintro e w2 ⟨rfl, hg⟩
  have HB_F := Lib.hid (blockN (((Chg.refl Non _).alloc _).then_non hg) HB_F.out)
  have HB_X := Lib.hid (blockN (((Chg.refl Non _).alloc _).then_non hg) HB_X.out)
  have HB_Y := Lib.hid (blockN hg (al_1_0 _ _))
  have HG : Hid (Chg Non w w2) := Lib.hid (((HG.out).alloc _).then_non hg)
  clear hg z_F c_F_0 c_F_1 c_F_2 c_F_3 z_X c_X_0 c_X_1 c_X_2 c_X_3 c_X_4
  obtain ⟨⟨z_F, c_F_0, c_F_1, c_F_2, c_F_3⟩, _⟩ := (Blk4.mk HB_F.out).all
  obtain ⟨⟨z_X, c_X_0, c_X_1, c_X_2, c_X_3, c_X_4⟩, _⟩ := (Blk5.mk HB_X.out).all
  obtain ⟨⟨z_Y, c_Y_0, c_Y_1, c_Y_2, c_Y_3, c_Y_4⟩, _⟩ := (Blk5.mk HB_Y.out).all
  go_wp2_with fail
  refine (Enc_v op a b 0 n e1 e2 e3 e4 _ HM.out HEn.out).mono ?_
  rintro e w3 ⟨rfl, hg⟩
  have HB_F := Lib.hid (blockN ((Chg.refl Non _).then_non hg) HB_F.out)
  have HB_X := Lib.hid (blockN ((Chg.refl Non _).then_non hg) HB_X.out)
  have HB_Y := Lib.hid (blockN ((Chg.refl Non _).then_non hg) HB_Y.out)
  have HG : Hid (Chg Non w w3) := Lib.hid ((HG.out).then_non hg)
  clear hg z_F c_F_0 c_F_1 c_F_2 c_F_3 z_X c_X_0 c_X_1 c_X_2 c_X_3 c_X_4 z_Y c_Y_0 c_Y_1 c_Y_2 c_Y_3 c_Y_4
  obtain ⟨⟨z_F, c_F_0, c_F_1, c_F_2, c_F_3⟩, _⟩ := (Blk4.mk HB_F.out).all
  obtain ⟨⟨z_X, c_X_0, c_X_1, c_X_2, c_X_3, c_X_4⟩, _⟩ := (Blk5.mk HB_X.out).all
  obtain ⟨⟨z_Y, c_Y_0, c_Y_1, c_Y_2, c_Y_3, c_Y_4⟩, _⟩ := (Blk5.mk HB_Y.out).all
  go_wp2_with fail
  clear z_F c_F_0 c_F_1 c_F_2 c_F_3 z_X c_X_0 c_X_1 c_X_2 c_X_3 c_X_4 z_Y c_Y_0 c_Y_1 c_Y_2 c_Y_3 c_Y_4
  refine wp_region_held_drew (S := fun v => Chg Non (w3.alloc (.cells #[.int .u8 e1, .int .u8 e2, .int .u8 e3, .int .u8 e4] 24)) v) (by kernel_rfl) ((Chg.refl Non _).drew) (fun hHeld => ?_)
  clear hHeld
  have k1 := K1.out
  have k2 := K2.out
  refine h_pure 0 (some 39) (.int .i64 0) rfl (by kernel_rfl) (by kernel_rfl) (by kernel_rfl) (by kernel_rfl) (fun _ _ _ h => h) (by kernel_rfl) (fun w e => by go_simp) ((Chg.refl _ _).drew) ?_
  simp only [Act.put, List.setIfInBounds_toArray, List.set_cons_zero, List.set_cons_succ]
  refine h_pure 1 (some 40) (.bool true) rfl (by kernel_rfl) (by kernel_rfl) (by kernel_rfl) (by kernel_rfl) (fun _ _ _ h => h) (by kernel_rfl) (fun w e => by go_simp) ((Chg.refl _ _).drew) ?_
  simp only [Act.put, List.setIfInBounds_toArray, List.set_cons_zero, List.set_cons_succ]
  refine h_pure 2 (some 41) (.bool true) rfl (by kernel_rfl) (by kernel_rfl) (by kernel_rfl) (by kernel_rfl) (fun _ _ _ h => h) (by kernel_rfl) (fun w e => by go_simp) ((Chg.refl _ _).drew) ?_
  simp only [Act.put, List.setIfInBounds_toArray, List.set_cons_zero, List.set_cons_succ]
  refine h_load 3 (some 42) 24 (.tmp 14) w3.heap.size 0 #[.int .u8 e1, .int .u8 e2, .int .u8 e3, .int .u8 e4] _ rfl (by kernel_rfl) (by kernel_rfl) (by kernel_rfl) (by kernel_rfl) (by kernel_rfl) (fun _ _ _ h => h) (by kernel_rfl) (by kernel_rfl) (fun w h => row_range (blockN h (al_1_0 _ _))) Tryd.underlying24 rfl info_four ((Chg.refl _ _).drew) ?_
  simp only [Act.put, List.setIfInBounds_toArray, List.set_cons_zero, List.set_cons_succ]
  refine h_load 4 (some 43) 24 (.tmp 9) w.heap.size 0 #[.int .u8 p, .int .u8 q, .int .u8 r, .int .u8 s] _ rfl (by kernel_rfl) (by kernel_rfl) (by kernel_rfl) (by kernel_rfl) (by kernel_rfl) (fun _ _ _ h => h) (by kernel_rfl) (by kernel_rfl) (fun w h => row_range (blockN (((Chg.refl Non _).alloc _).then_non h) HB_F.out)) Tryd.underlying24 rfl info_four ((Chg.refl _ _).drew) ?_
  simp only [Act.put, List.setIfInBounds_toArray, List.set_cons_zero, List.set_cons_succ]
  refine h_pure 5 (some 44) (.bool q1) rfl (by kernel_rfl) (by kernel_rfl) (by kernel_rfl) (by kernel_rfl) (fun _ _ _ h => h) (by kernel_rfl) (fun w e => by go_simp) ((Chg.refl _ _).drew) ?_
  simp only [Act.put, List.setIfInBounds_toArray, List.set_cons_zero, List.set_cons_succ]
  refine h_load 6 (some 45) 25 (.tmp 11) (w.heap.size + 1) 0 #[.int .u8 op, .int .u8 a, .int .u8 b, .int .u8 0, .int .i64 n] _ rfl (by kernel_rfl) (by kernel_rfl) (by kernel_rfl) (by kernel_rfl) (by kernel_rfl) (fun _ _ _ h => h) (by kernel_rfl) (by kernel_rfl) (fun w h => row_range (blockN (((Chg.refl Non _).alloc _).then_non h) HB_X.out)) Tryd.underlying25 rfl info_ins ((Chg.refl _ _).drew) ?_
  simp only [Act.put, List.setIfInBounds_toArray, List.set_cons_zero, List.set_cons_succ]
  refine h_load 7 (some 46) 25 (.tmp 12) w1.heap.size 0 #[.int .u8 op2, .int .u8 a2, .int .u8 b2, .int .u8 c2, .int .i64 n2] _ rfl (by kernel_rfl) (by kernel_rfl) (by kernel_rfl) (by kernel_rfl) (by kernel_rfl) (fun _ _ _ h => h) (by kernel_rfl) (by kernel_rfl) (fun w h => row_range (blockN (((Chg.refl Non _).alloc _).then_non h) HB_Y.out)) Tryd.underlying25 rfl info_ins ((Chg.refl _ _).drew) ?_
  simp only [Act.put, List.setIfInBounds_toArray, List.set_cons_zero, List.set_cons_succ]
  refine h_pure 8 (some 47) (.bool q1) rfl (by kernel_rfl) (by kernel_rfl) (by kernel_rfl) (by kernel_rfl) (fun _ _ _ h => h) (by kernel_rfl) (fun w e => by go_simp) ((Chg.refl _ _).drew) ?_
  simp only [Act.put, List.setIfInBounds_toArray, List.set_cons_zero, List.set_cons_succ]
  refine h_pure 9 (some 48) (.bool true) rfl (by kernel_rfl) (by kernel_rfl) (by kernel_rfl) (by kernel_rfl) (fun _ _ _ h => h) (by kernel_rfl) (fun w e => by go_simp) ((Chg.refl _ _).drew) ?_
  simp only [Act.put, List.setIfInBounds_toArray, List.set_cons_zero, List.set_cons_succ]
  refine h_pure 10 (some 49) (.bool true) rfl (by kernel_rfl) (by kernel_rfl) (by kernel_rfl) (by kernel_rfl) (fun _ _ _ h => h) (by kernel_rfl) (fun w e => by go_simp) ((Chg.refl _ _).drew) ?_
  simp only [Act.put, List.setIfInBounds_toArray, List.set_cons_zero, List.set_cons_succ]
  refine h_pure 11 (some 50) (.bool true) rfl (by kernel_rfl) (by kernel_rfl) (by kernel_rfl) (by kernel_rfl) (fun _ _ _ h => h) (by kernel_rfl) (fun w e => by go_simp) ((Chg.refl _ _).drew) ?_
  simp only [Act.put, List.setIfInBounds_toArray, List.set_cons_zero, List.set_cons_succ]
  refine h_load 12 (some 51) 25 (.tmp 11) (w.heap.size + 1) 0 #[.int .u8 op, .int .u8 a, .int .u8 b, .int .u8 0, .int .i64 n] _ rfl (by kernel_rfl) (by kernel_rfl) (by kernel_rfl) (by kernel_rfl) (by kernel_rfl) (fun _ _ _ h => h) (by kernel_rfl) (by kernel_rfl) (fun w h => row_range (blockN (((Chg.refl Non _).alloc _).then_non h) HB_X.out)) Tryd.underlying25 rfl info_ins ((Chg.refl _ _).drew) ?_
  simp only [Act.put, List.setIfInBounds_toArray, List.set_cons_zero, List.set_cons_succ]
  refine h_load 14 (some 53) 25 (.tmp 12) w1.heap.size 0 #[.int .u8 op2, .int .u8 a2, .int .u8 b2, .int .u8 c2, .int .i64 n2] _ rfl (by kernel_rfl) (by kernel_rfl) (by kernel_rfl) (by kernel_rfl) (by kernel_rfl) (fun _ _ _ h => h) (by kernel_rfl) (by kernel_rfl) (fun w h => row_range (blockN (((Chg.refl Non _).alloc _).then_non h) HB_Y.out)) Tryd.underlying25 rfl info_ins ((Chg.refl _ _).drew) ?_
  simp only [Act.put, List.setIfInBounds_toArray, List.set_cons_zero, List.set_cons_succ]
  refine h_load 17 (some 56) 25 (.tmp 11) (w.heap.size + 1) 0 #[.int .u8 op, .int .u8 a, .int .u8 b, .int .u8 0, .int .i64 n] _ rfl (by kernel_rfl) (by kernel_rfl) (by kernel_rfl) (by kernel_rfl) (by kernel_rfl) (fun _ _ _ h => h) (by kernel_rfl) (by kernel_rfl) (fun w h => row_range (blockN (((Chg.refl Non _).alloc _).then_non h) HB_X.out)) Tryd.underlying25 rfl info_ins ((Chg.refl _ _).drew) ?_
  simp only [Act.put, List.setIfInBounds_toArray, List.set_cons_zero, List.set_cons_succ]
  refine h_load 18 (some 57) 25 (.tmp 12) w1.heap.size 0 #[.int .u8 op2, .int .u8 a2, .int .u8 b2, .int .u8 c2, .int .i64 n2] _ rfl (by kernel_rfl) (by kernel_rfl) (by kernel_rfl) (by kernel_rfl) (by kernel_rfl) (fun _ _ _ h => h) (by kernel_rfl) (by kernel_rfl) (fun w h => row_range (blockN (((Chg.refl Non _).alloc _).then_non h) HB_Y.out)) Tryd.underlying25 rfl info_ins ((Chg.refl _ _).drew) ?_
  simp only [Act.put, List.setIfInBounds_toArray, List.set_cons_zero, List.set_cons_succ]
  refine h_pure 19 (some 58) (.bool q1) rfl (by kernel_rfl) (by kernel_rfl) (by kernel_rfl) (by kernel_rfl) (fun _ _ _ h => h) (by kernel_rfl) (fun w e => by go_simp) ((Chg.refl _ _).drew) ?_
  simp only [Act.put, List.setIfInBounds_toArray, List.set_cons_zero, List.set_cons_succ]
  refine h_one 13 (by kernel_rfl) rfl (by kernel_rfl) ?_
  intro K hK
  go_simp
  refine (Text_v op a b 0 n tx _ (HE.out.non ((HG.out.alloc _).drew)) HTx.out).mono ?_
  rintro e y1 ⟨rfl, hg1⟩
  have HY1 := Lib.hid (((Chg.refl Non _).drew).then_non hg1)
  clear hg1
  refine hK.out _ _ HY1.out (fun _ => ?_)
  clear hK K
  refine h_one 15 (by kernel_rfl) rfl (by kernel_rfl) ?_
  intro K hK
  go_simp
  refine (Text_v op2 a2 b2 c2 n2 ty _ (HE.out.non ((HG.out.alloc _).then_non HY1.out)) HTy.out).mono ?_
  rintro e y2 ⟨rfl, hg2⟩
  have HY2 := Lib.hid (HY1.out.then_non hg2)
  clear hg2
  refine hK.out _ _ HY2.out (fun _ => ?_)
  clear hK K
  refine h_pure 16 (some 55) (.bool q1) rfl (by kernel_rfl) (by kernel_rfl) (by kernel_rfl) (by kernel_rfl) (fun _ _ _ h => h) (by kernel_rfl) (fun w e => by go_simp) HY2.out ?_
  simp only [Act.put, List.setIfInBounds_toArray, List.set_cons_zero, List.set_cons_succ]
  refine h_pure 20 (some 59) (.bool true) rfl (by kernel_rfl) (by kernel_rfl) (by kernel_rfl) (by kernel_rfl) (fun _ _ _ h => h) (by kernel_rfl) (fun w e => by go_simp) HY2.out ?_
  simp only [Act.put, List.setIfInBounds_toArray, List.set_cons_zero, List.set_cons_succ]
  refine h_pure 21 (some 60) (.bool true) rfl (by kernel_rfl) (by kernel_rfl) (by kernel_rfl) (by kernel_rfl) (fun _ _ _ h => h) (by kernel_rfl) (fun w e => by go_simp) HY2.out ?_
  simp only [Act.put, List.setIfInBounds_toArray, List.set_cons_zero, List.set_cons_succ]
  refine h_pure 22 (some 61) (.bool true) rfl (by kernel_rfl) (by kernel_rfl) (by kernel_rfl) (by kernel_rfl) (fun _ _ _ h => h) (by kernel_rfl) (fun w e => by go_simp) HY2.out ?_
  simp only [Act.put, List.setIfInBounds_toArray, List.set_cons_zero, List.set_cons_succ]
  refine h_one 23 (by kernel_rfl) rfl (by kernel_rfl) ?_
  intro K hK
  go_simp
  refine (iawake_ok _ (HE.out.non ((HG.out.alloc _).then_non HY2.out))).mono ?_
  rintro e y3 ⟨rfl, hg3⟩
  have HY3 := Lib.hid (HY2.out.then_non hg3)
  clear hg3
  refine hK.out _ _ HY3.out (fun _ => ?_)
  clear hK K
  refine h_pure 24 (some 63) (.bool true) rfl (by kernel_rfl) (by kernel_rfl) (by kernel_rfl) (by kernel_rfl) (fun _ _ _ h => h) (by kernel_rfl) (fun w e => by go_simp) HY3.out ?_
  simp only [Act.put, List.setIfInBounds_toArray, List.set_cons_zero, List.set_cons_succ]
  refine h_pure 25 (some 10) (.bool true) rfl (by kernel_rfl) (by kernel_rfl) (by kernel_rfl) (by kernel_rfl) (fun _ _ _ h => h) (by kernel_rfl) (fun w e => by go_simp) HY3.out ?_
  simp only [Act.put, List.setIfInBounds_toArray, List.set_cons_zero, List.set_cons_succ]
  refine wpAnyH_done (by kernel_rfl) ?_ _
  go_wp2_with fail
  go_ret
  exact ⟨rfl, (HG.out.alloc _).then_non HY3.out⟩

theorem IsaUnlike_ok (op a b : Nat) (n : Int) (p q r s : Nat) (w : World) (hE : Env w) (hx : Ins.Bd ⟨op, a, b, 0, n⟩) (hf : Four (p, q, r, s)) :
    Calls Tryd.prog 7 #[.int .u8 op, .int .u8 a, .int .u8 b, .int .i64 n, .agg #[.int .u8 p, .int .u8 q, .int .u8 r, .int .u8 s]] w fun e w' => e = .returned (.bool true) ∧ Chg Non w w' := by
  cases h1 : mayB ⟨op, a, b, 0, n⟩ <;> cases h2 : mayB (decI p q r s)
  · exact unlike_00 op a b n p q r s w hE hx hf h1 h2
  · exact unlike_01 op a b n p q r s w hE hx hf h1 h2
  · exact unlike_10 op a b n p q r s w hE hx hf h1 h2
  · exact unlike_11 op a b n p q r s w hE hx hf h1 h2
end Go.Proofs.YtpcmnphohneddaaDoor
