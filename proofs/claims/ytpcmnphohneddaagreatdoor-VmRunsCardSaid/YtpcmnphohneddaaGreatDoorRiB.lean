/- The document's answer of layer 19: Bytes, Decode; the law's 'is'. (Written by wip/gen_riB.py.) -/
import Derived.Test.YtpcmnphohneddaaGreatDoorRiA
namespace Go.Proofs.YtpcmnphohneddaaGreatDoor
open Go.RowKit
set_option linter.unusedVariables false

theorem info_rins : (Tryz.prog.info? 58).map (·.size) = some 5 := by kernel_rfl
theorem kd_n (k : Nat) : (opAt k).n = (kdF (kdAt k)).2.2.2 := by
  have h := (kd_form k).1
  rw [← h]
theorem enc_kd (op a b c m : Nat) : encI ⟨op, a, b, c, m⟩ = if 255 < (kdF (kdAt op)).2.2.2 then (op, a, m / 256, m % 256) else if 0 < (kdF (kdAt op)).2.2.2 then (op, a, b, m) else (op, a, b, c) := by
  unfold encI
  simp only [kd_n, Int.toNat_natCast]
theorem dec_kd (p q r s : Nat) : decI p q r s = if 255 < (kdF (kdAt p)).2.2.2 then ⟨p, q, 0, 0, (256 * r + s : Nat)⟩ else if 0 < (kdF (kdAt p)).2.2.2 then ⟨p, q, r, 0, s⟩ else ⟨p, q, r, s, 0⟩ := by
  unfold decI
  simp only [kd_n]
  split
  · simp
  · rfl
set_option maxRecDepth 100000 in
set_option maxHeartbeats 1000000 in
theorem rdec_none1 (p q r s : Nat) (w : World) (hf : Four (p, q, r, s)) (hk : kdAt p = .none_) (hm : mayB (decI p q r s) = true) :
    Calls Tryz.prog 25 #[.agg #[.int .u8 p, .int .u8 q, .int .u8 r, .int .u8 s]] w fun e w' => e = .returned (.tuple #[.agg (insC (decI p q r s)), .int .i64 0]) ∧ Chg Non w w' := by
  have hd : decI p q r s = ⟨p, q, r, s, 0⟩ := by rw [dec_kd, hk]; rfl
  rw [hd] at hm ⊢
  obtain ⟨f1, f2, f3, f4⟩ := hf
  simp only at f1 f2 f3 f4
  have HF := Lib.hid (fun w => Form_ok p w)
  rw [hk] at HF
  rw [show (⟨(kdL .none_).toArray⟩ : ByteArray) = ⟨#[110, 111, 110, 101]⟩ from rfl] at HF
  have HM := Lib.hid (fun w => rMay_ok p q r s 0 w ⟨f1, f2, f3, f4, by show -9223372036854775808 ≤ (0 : Int); omega, by show (0 : Int) ≤ 9223372036854775807; omega⟩)
  rw [hm] at HM
  clear hk hm hd
  go_enter Tryz.func25, Tryz.ntmps25
  go_wp2_with fail
  refine (HF.out _).mono ?_
  rintro e w1 ⟨rfl, rfl⟩
  go_wp2_with fail
  refine (HM.out _).mono ?_
  rintro e w2 ⟨rfl, hg⟩
  have HG : Hid (Chg Non w w2) := Lib.hid (((((Chg.refl Non w).alloc _).alloc _).alloc _).then_non hg)
  have HR := Lib.hid (blockN hg (al_3_1 _ _ _ _))
  obtain ⟨⟨xz, x0, x1, x2, x3, x4⟩, _⟩ := (Blk5.mk (blockN hg (al_3_2 _ _ _ _))).all
  clear hg
  go_wp2_with (first
    | (refine sel none (.store 58 (.tmp 2) (.tmp 44)) ?_
       refine wpList_store_rowA rfl 58 (.tmp 2) (.tmp 44) rfl (w.heap.size + 1) #[.int .u8 p, .int .u8 q, .int .u8 r, .int .u8 s, .int .i64 0] rfl rfl 58 _ HR.out info_rins rfl (by simp [Value.oneCell']) ?_
       intro W hgW hbW
       have HBW := Lib.hid hbW
       have HGW := Lib.hid hgW
       clear hbW hgW))
  exact bodyPost_ret (results_ct Tryz.results25 _ _ (w.heap.size + 1) 58 _ (0, 0) _ (.int .i64 0) rfl rfl HBW.out Tryz.underlying58 rfl info_rins) rfl ⟨rfl, HG.out.then_new HGW.out (fun x e => by omega)⟩
set_option maxRecDepth 100000 in
set_option maxHeartbeats 1000000 in
theorem rdec_none0 (p q r s : Nat) (w : World) (hf : Four (p, q, r, s)) (hk : kdAt p = .none_) (hm : mayB (decI p q r s) = false) :
    Calls Tryz.prog 25 #[.agg #[.int .u8 p, .int .u8 q, .int .u8 r, .int .u8 s]] w fun e w' => e = .returned (.tuple #[.agg #[.int .u8 0, .int .u8 0, .int .u8 0, .int .u8 0, .int .i64 0], .int .i64 190]) ∧ Chg Non w w' := by
  have hd : decI p q r s = ⟨p, q, r, s, 0⟩ := by rw [dec_kd, hk]; rfl
  rw [hd] at hm
  obtain ⟨f1, f2, f3, f4⟩ := hf
  simp only at f1 f2 f3 f4
  have HF := Lib.hid (fun w => Form_ok p w)
  rw [hk] at HF
  rw [show (⟨(kdL .none_).toArray⟩ : ByteArray) = ⟨#[110, 111, 110, 101]⟩ from rfl] at HF
  have HM := Lib.hid (fun w => rMay_ok p q r s 0 w ⟨f1, f2, f3, f4, by show -9223372036854775808 ≤ (0 : Int); omega, by show (0 : Int) ≤ 9223372036854775807; omega⟩)
  rw [hm] at HM
  clear hk hm hd
  go_enter Tryz.func25, Tryz.ntmps25
  go_wp2_with fail
  refine (HF.out _).mono ?_
  rintro e w1 ⟨rfl, rfl⟩
  go_wp2_with fail
  refine (HM.out _).mono ?_
  rintro e w2 ⟨rfl, hg⟩
  have HG : Hid (Chg Non w w2) := Lib.hid (((((Chg.refl Non w).alloc _).alloc _).alloc _).then_non hg)
  have HR := Lib.hid (blockN hg (al_3_1 _ _ _ _))
  obtain ⟨⟨xz, x0, x1, x2, x3, x4⟩, _⟩ := (Blk5.mk (blockN hg (al_3_2 _ _ _ _))).all
  clear hg
  go_wp2_with (first
    | (refine sel none (.store 58 (.tmp 2) (.tmp 43)) ?_
       refine wpList_store_rowA rfl 58 (.tmp 2) (.tmp 43) rfl (w.heap.size + 1) #[.int .u8 0, .int .u8 0, .int .u8 0, .int .u8 0, .int .i64 0] rfl rfl 58 _ HR.out info_rins rfl (by simp [Value.oneCell']) ?_
       intro W hgW hbW
       have HBW := Lib.hid hbW
       have HGW := Lib.hid hgW
       clear hbW hgW))
  exact bodyPost_ret (results_ct Tryz.results25 _ _ (w.heap.size + 1) 58 _ (0, 0) _ (.int .i64 190) rfl rfl HBW.out Tryz.underlying58 rfl info_rins) rfl ⟨rfl, HG.out.then_new HGW.out (fun x e => by omega)⟩
set_option maxRecDepth 100000 in
set_option maxHeartbeats 1000000 in
theorem rdec_an1 (p q r s : Nat) (w : World) (hf : Four (p, q, r, s)) (hk : kdAt p = .an) (hm : mayB (decI p q r s) = true) :
    Calls Tryz.prog 25 #[.agg #[.int .u8 p, .int .u8 q, .int .u8 r, .int .u8 s]] w fun e w' => e = .returned (.tuple #[.agg (insC (decI p q r s)), .int .i64 0]) ∧ Chg Non w w' := by
  have hd : decI p q r s = ⟨p, q, 0, 0, (256 * r + s : Nat)⟩ := by rw [dec_kd, hk]; rfl
  rw [hd] at hm ⊢
  obtain ⟨f1, f2, f3, f4⟩ := hf
  simp only at f1 f2 f3 f4
  have HF := Lib.hid (fun w => Form_ok p w)
  rw [hk] at HF
  rw [show (⟨(kdL .an).toArray⟩ : ByteArray) = ⟨#[97, 110]⟩ from rfl] at HF
  obtain ⟨N, hN⟩ : ∃ N, 256 * r + s = N := ⟨_, rfl⟩
  have hNN : 256 * (r : Int) + s = N := by omega
  rw [hN] at hm ⊢
  have HM := Lib.hid (fun w => rMay_ok p q 0 0 N w ⟨f1, f2, by show (0 : Nat) < 256; omega, by show (0 : Nat) < 256; omega, by show -9223372036854775808 ≤ (N : Int); omega, by show (N : Int) ≤ 9223372036854775807; omega⟩)
  rw [hm] at HM
  clear hk hm hd
  go_enter Tryz.func25, Tryz.ntmps25
  go_wp2_with fail
  refine (HF.out _).mono ?_
  rintro e w1 ⟨rfl, rfl⟩
  go_wp2_with fail
  refine (HM.out _).mono ?_
  rintro e w2 ⟨rfl, hg⟩
  have HG : Hid (Chg Non w w2) := Lib.hid (((((Chg.refl Non w).alloc _).alloc _).alloc _).then_non hg)
  have HR := Lib.hid (blockN hg (al_3_1 _ _ _ _))
  obtain ⟨⟨xz, x0, x1, x2, x3, x4⟩, _⟩ := (Blk5.mk (blockN hg (al_3_2 _ _ _ _))).all
  clear hg
  go_wp2_with (first
    | (refine sel none (.store 58 (.tmp 2) (.tmp 44)) ?_
       refine wpList_store_rowA rfl 58 (.tmp 2) (.tmp 44) rfl (w.heap.size + 1) #[.int .u8 p, .int .u8 q, .int .u8 0, .int .u8 0, .int .i64 N] rfl rfl 58 _ HR.out info_rins rfl (by simp [Value.oneCell']) ?_
       intro W hgW hbW
       have HBW := Lib.hid hbW
       have HGW := Lib.hid hgW
       clear hbW hgW))
  exact bodyPost_ret (results_ct Tryz.results25 _ _ (w.heap.size + 1) 58 _ (0, 0) _ (.int .i64 0) rfl rfl HBW.out Tryz.underlying58 rfl info_rins) rfl ⟨rfl, HG.out.then_new HGW.out (fun x e => by omega)⟩
set_option maxRecDepth 100000 in
set_option maxHeartbeats 1000000 in
theorem rdec_an0 (p q r s : Nat) (w : World) (hf : Four (p, q, r, s)) (hk : kdAt p = .an) (hm : mayB (decI p q r s) = false) :
    Calls Tryz.prog 25 #[.agg #[.int .u8 p, .int .u8 q, .int .u8 r, .int .u8 s]] w fun e w' => e = .returned (.tuple #[.agg #[.int .u8 0, .int .u8 0, .int .u8 0, .int .u8 0, .int .i64 0], .int .i64 190]) ∧ Chg Non w w' := by
  have hd : decI p q r s = ⟨p, q, 0, 0, (256 * r + s : Nat)⟩ := by rw [dec_kd, hk]; rfl
  rw [hd] at hm
  obtain ⟨f1, f2, f3, f4⟩ := hf
  simp only at f1 f2 f3 f4
  have HF := Lib.hid (fun w => Form_ok p w)
  rw [hk] at HF
  rw [show (⟨(kdL .an).toArray⟩ : ByteArray) = ⟨#[97, 110]⟩ from rfl] at HF
  obtain ⟨N, hN⟩ : ∃ N, 256 * r + s = N := ⟨_, rfl⟩
  have hNN : 256 * (r : Int) + s = N := by omega
  rw [hN] at hm
  have HM := Lib.hid (fun w => rMay_ok p q 0 0 N w ⟨f1, f2, by show (0 : Nat) < 256; omega, by show (0 : Nat) < 256; omega, by show -9223372036854775808 ≤ (N : Int); omega, by show (N : Int) ≤ 9223372036854775807; omega⟩)
  rw [hm] at HM
  clear hk hm hd
  go_enter Tryz.func25, Tryz.ntmps25
  go_wp2_with fail
  refine (HF.out _).mono ?_
  rintro e w1 ⟨rfl, rfl⟩
  go_wp2_with fail
  refine (HM.out _).mono ?_
  rintro e w2 ⟨rfl, hg⟩
  have HG : Hid (Chg Non w w2) := Lib.hid (((((Chg.refl Non w).alloc _).alloc _).alloc _).then_non hg)
  have HR := Lib.hid (blockN hg (al_3_1 _ _ _ _))
  obtain ⟨⟨xz, x0, x1, x2, x3, x4⟩, _⟩ := (Blk5.mk (blockN hg (al_3_2 _ _ _ _))).all
  clear hg
  go_wp2_with (first
    | (refine sel none (.store 58 (.tmp 2) (.tmp 43)) ?_
       refine wpList_store_rowA rfl 58 (.tmp 2) (.tmp 43) rfl (w.heap.size + 1) #[.int .u8 0, .int .u8 0, .int .u8 0, .int .u8 0, .int .i64 0] rfl rfl 58 _ HR.out info_rins rfl (by simp [Value.oneCell']) ?_
       intro W hgW hbW
       have HBW := Lib.hid hbW
       have HGW := Lib.hid hgW
       clear hbW hgW))
  exact bodyPost_ret (results_ct Tryz.results25 _ _ (w.heap.size + 1) 58 _ (0, 0) _ (.int .i64 190) rfl rfl HBW.out Tryz.underlying58 rfl info_rins) rfl ⟨rfl, HG.out.then_new HGW.out (fun x e => by omega)⟩
set_option maxRecDepth 100000 in
set_option maxHeartbeats 1000000 in
theorem rdec_abc1 (p q r s : Nat) (w : World) (hf : Four (p, q, r, s)) (hk : kdAt p = .abc) (hm : mayB (decI p q r s) = true) :
    Calls Tryz.prog 25 #[.agg #[.int .u8 p, .int .u8 q, .int .u8 r, .int .u8 s]] w fun e w' => e = .returned (.tuple #[.agg (insC (decI p q r s)), .int .i64 0]) ∧ Chg Non w w' := by
  have hd : decI p q r s = ⟨p, q, r, s, 0⟩ := by rw [dec_kd, hk]; rfl
  rw [hd] at hm ⊢
  obtain ⟨f1, f2, f3, f4⟩ := hf
  simp only at f1 f2 f3 f4
  have HF := Lib.hid (fun w => Form_ok p w)
  rw [hk] at HF
  rw [show (⟨(kdL .abc).toArray⟩ : ByteArray) = ⟨#[97, 98, 99]⟩ from rfl] at HF
  have HM := Lib.hid (fun w => rMay_ok p q r s 0 w ⟨f1, f2, f3, f4, by show -9223372036854775808 ≤ (0 : Int); omega, by show (0 : Int) ≤ 9223372036854775807; omega⟩)
  rw [hm] at HM
  clear hk hm hd
  go_enter Tryz.func25, Tryz.ntmps25
  go_wp2_with fail
  refine (HF.out _).mono ?_
  rintro e w1 ⟨rfl, rfl⟩
  go_wp2_with fail
  refine (HM.out _).mono ?_
  rintro e w2 ⟨rfl, hg⟩
  have HG : Hid (Chg Non w w2) := Lib.hid (((((Chg.refl Non w).alloc _).alloc _).alloc _).then_non hg)
  have HR := Lib.hid (blockN hg (al_3_1 _ _ _ _))
  obtain ⟨⟨xz, x0, x1, x2, x3, x4⟩, _⟩ := (Blk5.mk (blockN hg (al_3_2 _ _ _ _))).all
  clear hg
  go_wp2_with (first
    | (refine sel none (.store 58 (.tmp 2) (.tmp 44)) ?_
       refine wpList_store_rowA rfl 58 (.tmp 2) (.tmp 44) rfl (w.heap.size + 1) #[.int .u8 p, .int .u8 q, .int .u8 r, .int .u8 s, .int .i64 0] rfl rfl 58 _ HR.out info_rins rfl (by simp [Value.oneCell']) ?_
       intro W hgW hbW
       have HBW := Lib.hid hbW
       have HGW := Lib.hid hgW
       clear hbW hgW))
  exact bodyPost_ret (results_ct Tryz.results25 _ _ (w.heap.size + 1) 58 _ (0, 0) _ (.int .i64 0) rfl rfl HBW.out Tryz.underlying58 rfl info_rins) rfl ⟨rfl, HG.out.then_new HGW.out (fun x e => by omega)⟩
set_option maxRecDepth 100000 in
set_option maxHeartbeats 1000000 in
theorem rdec_abc0 (p q r s : Nat) (w : World) (hf : Four (p, q, r, s)) (hk : kdAt p = .abc) (hm : mayB (decI p q r s) = false) :
    Calls Tryz.prog 25 #[.agg #[.int .u8 p, .int .u8 q, .int .u8 r, .int .u8 s]] w fun e w' => e = .returned (.tuple #[.agg #[.int .u8 0, .int .u8 0, .int .u8 0, .int .u8 0, .int .i64 0], .int .i64 190]) ∧ Chg Non w w' := by
  have hd : decI p q r s = ⟨p, q, r, s, 0⟩ := by rw [dec_kd, hk]; rfl
  rw [hd] at hm
  obtain ⟨f1, f2, f3, f4⟩ := hf
  simp only at f1 f2 f3 f4
  have HF := Lib.hid (fun w => Form_ok p w)
  rw [hk] at HF
  rw [show (⟨(kdL .abc).toArray⟩ : ByteArray) = ⟨#[97, 98, 99]⟩ from rfl] at HF
  have HM := Lib.hid (fun w => rMay_ok p q r s 0 w ⟨f1, f2, f3, f4, by show -9223372036854775808 ≤ (0 : Int); omega, by show (0 : Int) ≤ 9223372036854775807; omega⟩)
  rw [hm] at HM
  clear hk hm hd
  go_enter Tryz.func25, Tryz.ntmps25
  go_wp2_with fail
  refine (HF.out _).mono ?_
  rintro e w1 ⟨rfl, rfl⟩
  go_wp2_with fail
  refine (HM.out _).mono ?_
  rintro e w2 ⟨rfl, hg⟩
  have HG : Hid (Chg Non w w2) := Lib.hid (((((Chg.refl Non w).alloc _).alloc _).alloc _).then_non hg)
  have HR := Lib.hid (blockN hg (al_3_1 _ _ _ _))
  obtain ⟨⟨xz, x0, x1, x2, x3, x4⟩, _⟩ := (Blk5.mk (blockN hg (al_3_2 _ _ _ _))).all
  clear hg
  go_wp2_with (first
    | (refine sel none (.store 58 (.tmp 2) (.tmp 43)) ?_
       refine wpList_store_rowA rfl 58 (.tmp 2) (.tmp 43) rfl (w.heap.size + 1) #[.int .u8 0, .int .u8 0, .int .u8 0, .int .u8 0, .int .i64 0] rfl rfl 58 _ HR.out info_rins rfl (by simp [Value.oneCell']) ?_
       intro W hgW hbW
       have HBW := Lib.hid hbW
       have HGW := Lib.hid hgW
       clear hbW hgW))
  exact bodyPost_ret (results_ct Tryz.results25 _ _ (w.heap.size + 1) 58 _ (0, 0) _ (.int .i64 190) rfl rfl HBW.out Tryz.underlying58 rfl info_rins) rfl ⟨rfl, HG.out.then_new HGW.out (fun x e => by omega)⟩
set_option maxRecDepth 100000 in
set_option maxHeartbeats 1000000 in
theorem rdec_abn1 (p q r s : Nat) (w : World) (hf : Four (p, q, r, s)) (hk : kdAt p = .abn) (hm : mayB (decI p q r s) = true) :
    Calls Tryz.prog 25 #[.agg #[.int .u8 p, .int .u8 q, .int .u8 r, .int .u8 s]] w fun e w' => e = .returned (.tuple #[.agg (insC (decI p q r s)), .int .i64 0]) ∧ Chg Non w w' := by
  have hd : decI p q r s = ⟨p, q, r, 0, s⟩ := by rw [dec_kd, hk]; rfl
  rw [hd] at hm ⊢
  obtain ⟨f1, f2, f3, f4⟩ := hf
  simp only at f1 f2 f3 f4
  have HF := Lib.hid (fun w => Form_ok p w)
  rw [hk] at HF
  rw [show (⟨(kdL .abn).toArray⟩ : ByteArray) = ⟨#[97, 98, 110]⟩ from rfl] at HF
  have HM := Lib.hid (fun w => rMay_ok p q r 0 s w ⟨f1, f2, f3, by show (0 : Nat) < 256; omega, by show -9223372036854775808 ≤ (s : Int); omega, by show (s : Int) ≤ 9223372036854775807; omega⟩)
  rw [hm] at HM
  clear hk hm hd
  go_enter Tryz.func25, Tryz.ntmps25
  go_wp2_with fail
  refine (HF.out _).mono ?_
  rintro e w1 ⟨rfl, rfl⟩
  go_wp2_with fail
  refine (HM.out _).mono ?_
  rintro e w2 ⟨rfl, hg⟩
  have HG : Hid (Chg Non w w2) := Lib.hid (((((Chg.refl Non w).alloc _).alloc _).alloc _).then_non hg)
  have HR := Lib.hid (blockN hg (al_3_1 _ _ _ _))
  obtain ⟨⟨xz, x0, x1, x2, x3, x4⟩, _⟩ := (Blk5.mk (blockN hg (al_3_2 _ _ _ _))).all
  clear hg
  go_wp2_with (first
    | (refine sel none (.store 58 (.tmp 2) (.tmp 44)) ?_
       refine wpList_store_rowA rfl 58 (.tmp 2) (.tmp 44) rfl (w.heap.size + 1) #[.int .u8 p, .int .u8 q, .int .u8 r, .int .u8 0, .int .i64 s] rfl rfl 58 _ HR.out info_rins rfl (by simp [Value.oneCell']) ?_
       intro W hgW hbW
       have HBW := Lib.hid hbW
       have HGW := Lib.hid hgW
       clear hbW hgW))
  exact bodyPost_ret (results_ct Tryz.results25 _ _ (w.heap.size + 1) 58 _ (0, 0) _ (.int .i64 0) rfl rfl HBW.out Tryz.underlying58 rfl info_rins) rfl ⟨rfl, HG.out.then_new HGW.out (fun x e => by omega)⟩
set_option maxRecDepth 100000 in
set_option maxHeartbeats 1000000 in
theorem rdec_abn0 (p q r s : Nat) (w : World) (hf : Four (p, q, r, s)) (hk : kdAt p = .abn) (hm : mayB (decI p q r s) = false) :
    Calls Tryz.prog 25 #[.agg #[.int .u8 p, .int .u8 q, .int .u8 r, .int .u8 s]] w fun e w' => e = .returned (.tuple #[.agg #[.int .u8 0, .int .u8 0, .int .u8 0, .int .u8 0, .int .i64 0], .int .i64 190]) ∧ Chg Non w w' := by
  have hd : decI p q r s = ⟨p, q, r, 0, s⟩ := by rw [dec_kd, hk]; rfl
  rw [hd] at hm
  obtain ⟨f1, f2, f3, f4⟩ := hf
  simp only at f1 f2 f3 f4
  have HF := Lib.hid (fun w => Form_ok p w)
  rw [hk] at HF
  rw [show (⟨(kdL .abn).toArray⟩ : ByteArray) = ⟨#[97, 98, 110]⟩ from rfl] at HF
  have HM := Lib.hid (fun w => rMay_ok p q r 0 s w ⟨f1, f2, f3, by show (0 : Nat) < 256; omega, by show -9223372036854775808 ≤ (s : Int); omega, by show (s : Int) ≤ 9223372036854775807; omega⟩)
  rw [hm] at HM
  clear hk hm hd
  go_enter Tryz.func25, Tryz.ntmps25
  go_wp2_with fail
  refine (HF.out _).mono ?_
  rintro e w1 ⟨rfl, rfl⟩
  go_wp2_with fail
  refine (HM.out _).mono ?_
  rintro e w2 ⟨rfl, hg⟩
  have HG : Hid (Chg Non w w2) := Lib.hid (((((Chg.refl Non w).alloc _).alloc _).alloc _).then_non hg)
  have HR := Lib.hid (blockN hg (al_3_1 _ _ _ _))
  obtain ⟨⟨xz, x0, x1, x2, x3, x4⟩, _⟩ := (Blk5.mk (blockN hg (al_3_2 _ _ _ _))).all
  clear hg
  go_wp2_with (first
    | (refine sel none (.store 58 (.tmp 2) (.tmp 43)) ?_
       refine wpList_store_rowA rfl 58 (.tmp 2) (.tmp 43) rfl (w.heap.size + 1) #[.int .u8 0, .int .u8 0, .int .u8 0, .int .u8 0, .int .i64 0] rfl rfl 58 _ HR.out info_rins rfl (by simp [Value.oneCell']) ?_
       intro W hgW hbW
       have HBW := Lib.hid hbW
       have HGW := Lib.hid hgW
       clear hbW hgW))
  exact bodyPost_ret (results_ct Tryz.results25 _ _ (w.heap.size + 1) 58 _ (0, 0) _ (.int .i64 190) rfl rfl HBW.out Tryz.underlying58 rfl info_rins) rfl ⟨rfl, HG.out.then_new HGW.out (fun x e => by omega)⟩
set_option maxRecDepth 100000 in
set_option maxHeartbeats 1000000 in
theorem rdec_n1 (p q r s : Nat) (w : World) (hf : Four (p, q, r, s)) (hk : kdAt p = .n_) (hm : mayB (decI p q r s) = true) :
    Calls Tryz.prog 25 #[.agg #[.int .u8 p, .int .u8 q, .int .u8 r, .int .u8 s]] w fun e w' => e = .returned (.tuple #[.agg (insC (decI p q r s)), .int .i64 0]) ∧ Chg Non w w' := by
  have hd : decI p q r s = ⟨p, q, 0, 0, (256 * r + s : Nat)⟩ := by rw [dec_kd, hk]; rfl
  rw [hd] at hm ⊢
  obtain ⟨f1, f2, f3, f4⟩ := hf
  simp only at f1 f2 f3 f4
  have HF := Lib.hid (fun w => Form_ok p w)
  rw [hk] at HF
  rw [show (⟨(kdL .n_).toArray⟩ : ByteArray) = ⟨#[110]⟩ from rfl] at HF
  obtain ⟨N, hN⟩ : ∃ N, 256 * r + s = N := ⟨_, rfl⟩
  have hNN : 256 * (r : Int) + s = N := by omega
  rw [hN] at hm ⊢
  have HM := Lib.hid (fun w => rMay_ok p q 0 0 N w ⟨f1, f2, by show (0 : Nat) < 256; omega, by show (0 : Nat) < 256; omega, by show -9223372036854775808 ≤ (N : Int); omega, by show (N : Int) ≤ 9223372036854775807; omega⟩)
  rw [hm] at HM
  clear hk hm hd
  go_enter Tryz.func25, Tryz.ntmps25
  go_wp2_with fail
  refine (HF.out _).mono ?_
  rintro e w1 ⟨rfl, rfl⟩
  go_wp2_with fail
  refine (HM.out _).mono ?_
  rintro e w2 ⟨rfl, hg⟩
  have HG : Hid (Chg Non w w2) := Lib.hid (((((Chg.refl Non w).alloc _).alloc _).alloc _).then_non hg)
  have HR := Lib.hid (blockN hg (al_3_1 _ _ _ _))
  obtain ⟨⟨xz, x0, x1, x2, x3, x4⟩, _⟩ := (Blk5.mk (blockN hg (al_3_2 _ _ _ _))).all
  clear hg
  go_wp2_with (first
    | (refine sel none (.store 58 (.tmp 2) (.tmp 44)) ?_
       refine wpList_store_rowA rfl 58 (.tmp 2) (.tmp 44) rfl (w.heap.size + 1) #[.int .u8 p, .int .u8 q, .int .u8 0, .int .u8 0, .int .i64 N] rfl rfl 58 _ HR.out info_rins rfl (by simp [Value.oneCell']) ?_
       intro W hgW hbW
       have HBW := Lib.hid hbW
       have HGW := Lib.hid hgW
       clear hbW hgW))
  exact bodyPost_ret (results_ct Tryz.results25 _ _ (w.heap.size + 1) 58 _ (0, 0) _ (.int .i64 0) rfl rfl HBW.out Tryz.underlying58 rfl info_rins) rfl ⟨rfl, HG.out.then_new HGW.out (fun x e => by omega)⟩
set_option maxRecDepth 100000 in
set_option maxHeartbeats 1000000 in
theorem rdec_n0 (p q r s : Nat) (w : World) (hf : Four (p, q, r, s)) (hk : kdAt p = .n_) (hm : mayB (decI p q r s) = false) :
    Calls Tryz.prog 25 #[.agg #[.int .u8 p, .int .u8 q, .int .u8 r, .int .u8 s]] w fun e w' => e = .returned (.tuple #[.agg #[.int .u8 0, .int .u8 0, .int .u8 0, .int .u8 0, .int .i64 0], .int .i64 190]) ∧ Chg Non w w' := by
  have hd : decI p q r s = ⟨p, q, 0, 0, (256 * r + s : Nat)⟩ := by rw [dec_kd, hk]; rfl
  rw [hd] at hm
  obtain ⟨f1, f2, f3, f4⟩ := hf
  simp only at f1 f2 f3 f4
  have HF := Lib.hid (fun w => Form_ok p w)
  rw [hk] at HF
  rw [show (⟨(kdL .n_).toArray⟩ : ByteArray) = ⟨#[110]⟩ from rfl] at HF
  obtain ⟨N, hN⟩ : ∃ N, 256 * r + s = N := ⟨_, rfl⟩
  have hNN : 256 * (r : Int) + s = N := by omega
  rw [hN] at hm
  have HM := Lib.hid (fun w => rMay_ok p q 0 0 N w ⟨f1, f2, by show (0 : Nat) < 256; omega, by show (0 : Nat) < 256; omega, by show -9223372036854775808 ≤ (N : Int); omega, by show (N : Int) ≤ 9223372036854775807; omega⟩)
  rw [hm] at HM
  clear hk hm hd
  go_enter Tryz.func25, Tryz.ntmps25
  go_wp2_with fail
  refine (HF.out _).mono ?_
  rintro e w1 ⟨rfl, rfl⟩
  go_wp2_with fail
  refine (HM.out _).mono ?_
  rintro e w2 ⟨rfl, hg⟩
  have HG : Hid (Chg Non w w2) := Lib.hid (((((Chg.refl Non w).alloc _).alloc _).alloc _).then_non hg)
  have HR := Lib.hid (blockN hg (al_3_1 _ _ _ _))
  obtain ⟨⟨xz, x0, x1, x2, x3, x4⟩, _⟩ := (Blk5.mk (blockN hg (al_3_2 _ _ _ _))).all
  clear hg
  go_wp2_with (first
    | (refine sel none (.store 58 (.tmp 2) (.tmp 43)) ?_
       refine wpList_store_rowA rfl 58 (.tmp 2) (.tmp 43) rfl (w.heap.size + 1) #[.int .u8 0, .int .u8 0, .int .u8 0, .int .u8 0, .int .i64 0] rfl rfl 58 _ HR.out info_rins rfl (by simp [Value.oneCell']) ?_
       intro W hgW hbW
       have HBW := Lib.hid hbW
       have HGW := Lib.hid hgW
       clear hbW hgW))
  exact bodyPost_ret (results_ct Tryz.results25 _ _ (w.heap.size + 1) 58 _ (0, 0) _ (.int .i64 190) rfl rfl HBW.out Tryz.underlying58 rfl info_rins) rfl ⟨rfl, HG.out.then_new HGW.out (fun x e => by omega)⟩
set_option maxRecDepth 100000 in
set_option maxHeartbeats 1000000 in
theorem rdec_ab1 (p q r s : Nat) (w : World) (hf : Four (p, q, r, s)) (hk : kdAt p = .ab) (hm : mayB (decI p q r s) = true) :
    Calls Tryz.prog 25 #[.agg #[.int .u8 p, .int .u8 q, .int .u8 r, .int .u8 s]] w fun e w' => e = .returned (.tuple #[.agg (insC (decI p q r s)), .int .i64 0]) ∧ Chg Non w w' := by
  have hd : decI p q r s = ⟨p, q, r, s, 0⟩ := by rw [dec_kd, hk]; rfl
  rw [hd] at hm ⊢
  obtain ⟨f1, f2, f3, f4⟩ := hf
  simp only at f1 f2 f3 f4
  have HF := Lib.hid (fun w => Form_ok p w)
  rw [hk] at HF
  rw [show (⟨(kdL .ab).toArray⟩ : ByteArray) = ⟨#[97, 98]⟩ from rfl] at HF
  have HM := Lib.hid (fun w => rMay_ok p q r s 0 w ⟨f1, f2, f3, f4, by show -9223372036854775808 ≤ (0 : Int); omega, by show (0 : Int) ≤ 9223372036854775807; omega⟩)
  rw [hm] at HM
  clear hk hm hd
  go_enter Tryz.func25, Tryz.ntmps25
  go_wp2_with fail
  refine (HF.out _).mono ?_
  rintro e w1 ⟨rfl, rfl⟩
  go_wp2_with fail
  refine (HM.out _).mono ?_
  rintro e w2 ⟨rfl, hg⟩
  have HG : Hid (Chg Non w w2) := Lib.hid (((((Chg.refl Non w).alloc _).alloc _).alloc _).then_non hg)
  have HR := Lib.hid (blockN hg (al_3_1 _ _ _ _))
  obtain ⟨⟨xz, x0, x1, x2, x3, x4⟩, _⟩ := (Blk5.mk (blockN hg (al_3_2 _ _ _ _))).all
  clear hg
  go_wp2_with (first
    | (refine sel none (.store 58 (.tmp 2) (.tmp 44)) ?_
       refine wpList_store_rowA rfl 58 (.tmp 2) (.tmp 44) rfl (w.heap.size + 1) #[.int .u8 p, .int .u8 q, .int .u8 r, .int .u8 s, .int .i64 0] rfl rfl 58 _ HR.out info_rins rfl (by simp [Value.oneCell']) ?_
       intro W hgW hbW
       have HBW := Lib.hid hbW
       have HGW := Lib.hid hgW
       clear hbW hgW))
  exact bodyPost_ret (results_ct Tryz.results25 _ _ (w.heap.size + 1) 58 _ (0, 0) _ (.int .i64 0) rfl rfl HBW.out Tryz.underlying58 rfl info_rins) rfl ⟨rfl, HG.out.then_new HGW.out (fun x e => by omega)⟩
set_option maxRecDepth 100000 in
set_option maxHeartbeats 1000000 in
theorem rdec_ab0 (p q r s : Nat) (w : World) (hf : Four (p, q, r, s)) (hk : kdAt p = .ab) (hm : mayB (decI p q r s) = false) :
    Calls Tryz.prog 25 #[.agg #[.int .u8 p, .int .u8 q, .int .u8 r, .int .u8 s]] w fun e w' => e = .returned (.tuple #[.agg #[.int .u8 0, .int .u8 0, .int .u8 0, .int .u8 0, .int .i64 0], .int .i64 190]) ∧ Chg Non w w' := by
  have hd : decI p q r s = ⟨p, q, r, s, 0⟩ := by rw [dec_kd, hk]; rfl
  rw [hd] at hm
  obtain ⟨f1, f2, f3, f4⟩ := hf
  simp only at f1 f2 f3 f4
  have HF := Lib.hid (fun w => Form_ok p w)
  rw [hk] at HF
  rw [show (⟨(kdL .ab).toArray⟩ : ByteArray) = ⟨#[97, 98]⟩ from rfl] at HF
  have HM := Lib.hid (fun w => rMay_ok p q r s 0 w ⟨f1, f2, f3, f4, by show -9223372036854775808 ≤ (0 : Int); omega, by show (0 : Int) ≤ 9223372036854775807; omega⟩)
  rw [hm] at HM
  clear hk hm hd
  go_enter Tryz.func25, Tryz.ntmps25
  go_wp2_with fail
  refine (HF.out _).mono ?_
  rintro e w1 ⟨rfl, rfl⟩
  go_wp2_with fail
  refine (HM.out _).mono ?_
  rintro e w2 ⟨rfl, hg⟩
  have HG : Hid (Chg Non w w2) := Lib.hid (((((Chg.refl Non w).alloc _).alloc _).alloc _).then_non hg)
  have HR := Lib.hid (blockN hg (al_3_1 _ _ _ _))
  obtain ⟨⟨xz, x0, x1, x2, x3, x4⟩, _⟩ := (Blk5.mk (blockN hg (al_3_2 _ _ _ _))).all
  clear hg
  go_wp2_with (first
    | (refine sel none (.store 58 (.tmp 2) (.tmp 43)) ?_
       refine wpList_store_rowA rfl 58 (.tmp 2) (.tmp 43) rfl (w.heap.size + 1) #[.int .u8 0, .int .u8 0, .int .u8 0, .int .u8 0, .int .i64 0] rfl rfl 58 _ HR.out info_rins rfl (by simp [Value.oneCell']) ?_
       intro W hgW hbW
       have HBW := Lib.hid hbW
       have HGW := Lib.hid hgW
       clear hbW hgW))
  exact bodyPost_ret (results_ct Tryz.results25 _ _ (w.heap.size + 1) 58 _ (0, 0) _ (.int .i64 190) rfl rfl HBW.out Tryz.underlying58 rfl info_rins) rfl ⟨rfl, HG.out.then_new HGW.out (fun x e => by omega)⟩
set_option maxRecDepth 100000 in
set_option maxHeartbeats 1000000 in
theorem rdec_no0 (p q r s : Nat) (w : World) (hf : Four (p, q, r, s)) (hk : kdAt p = .no) (hm : mayB (decI p q r s) = false) :
    Calls Tryz.prog 25 #[.agg #[.int .u8 p, .int .u8 q, .int .u8 r, .int .u8 s]] w fun e w' => e = .returned (.tuple #[.agg #[.int .u8 0, .int .u8 0, .int .u8 0, .int .u8 0, .int .i64 0], .int .i64 190]) ∧ Chg Non w w' := by
  have hd : decI p q r s = ⟨p, q, r, s, 0⟩ := by rw [dec_kd, hk]; rfl
  rw [hd] at hm
  obtain ⟨f1, f2, f3, f4⟩ := hf
  simp only at f1 f2 f3 f4
  have HF := Lib.hid (fun w => Form_ok p w)
  rw [hk] at HF
  rw [show (⟨(kdL .no).toArray⟩ : ByteArray) = ⟨#[]⟩ from rfl] at HF
  have HM := Lib.hid (fun w => rMay_ok p q r s 0 w ⟨f1, f2, f3, f4, by show -9223372036854775808 ≤ (0 : Int); omega, by show (0 : Int) ≤ 9223372036854775807; omega⟩)
  rw [hm] at HM
  clear hk hm hd
  go_enter Tryz.func25, Tryz.ntmps25
  go_wp2_with fail
  refine (HF.out _).mono ?_
  rintro e w1 ⟨rfl, rfl⟩
  go_wp2_with fail
  refine (HM.out _).mono ?_
  rintro e w2 ⟨rfl, hg⟩
  have HG : Hid (Chg Non w w2) := Lib.hid (((((Chg.refl Non w).alloc _).alloc _).alloc _).then_non hg)
  have HR := Lib.hid (blockN hg (al_3_1 _ _ _ _))
  obtain ⟨⟨xz, x0, x1, x2, x3, x4⟩, _⟩ := (Blk5.mk (blockN hg (al_3_2 _ _ _ _))).all
  clear hg
  go_wp2_with (first
    | (refine sel none (.store 58 (.tmp 2) (.tmp 43)) ?_
       refine wpList_store_rowA rfl 58 (.tmp 2) (.tmp 43) rfl (w.heap.size + 1) #[.int .u8 0, .int .u8 0, .int .u8 0, .int .u8 0, .int .i64 0] rfl rfl 58 _ HR.out info_rins rfl (by simp [Value.oneCell']) ?_
       intro W hgW hbW
       have HBW := Lib.hid hbW
       have HGW := Lib.hid hgW
       clear hbW hgW))
  exact bodyPost_ret (results_ct Tryz.results25 _ _ (w.heap.size + 1) 58 _ (0, 0) _ (.int .i64 190) rfl rfl HBW.out Tryz.underlying58 rfl info_rins) rfl ⟨rfl, HG.out.then_new HGW.out (fun x e => by omega)⟩
theorem rDec_v (p q r s : Nat) (op a b c : Nat) (n : Int) (w : World) (hf : Four (p, q, r, s)) (hd : decI p q r s = ⟨op, a, b, c, n⟩) (h : mayB ⟨op, a, b, c, n⟩ = true) :
    Calls Tryz.prog 25 #[.agg #[.int .u8 p, .int .u8 q, .int .u8 r, .int .u8 s]] w fun e w' => e = .returned (.tuple #[.agg #[.int .u8 op, .int .u8 a, .int .u8 b, .int .u8 c, .int .i64 n], .int .i64 0]) ∧ Chg Non w w' := by
  have hr : (Value.agg #[.int .u8 op, .int .u8 a, .int .u8 b, .int .u8 c, .int .i64 n]) = .agg (insC (decI p q r s)) := by rw [hd]; rfl
  rw [hr]
  rw [← hd] at h
  have hok : kdAt p ≠ .no := by
    have h1 := ((mayB_iff _).1 h).1
    rw [dec_op] at h1
    exact (kd_form p).2.1 (by simp [okB, h1.1, h1.2])
  cases hk : kdAt p with
  | no => exact absurd hk hok
  | none_ => exact rdec_none1 p q r s w hf hk h
  | an => exact rdec_an1 p q r s w hf hk h
  | abc => exact rdec_abc1 p q r s w hf hk h
  | abn => exact rdec_abn1 p q r s w hf hk h
  | n_ => exact rdec_n1 p q r s w hf hk h
  | ab => exact rdec_ab1 p q r s w hf hk h
theorem rDec_n (p q r s : Nat) (w : World) (hf : Four (p, q, r, s)) (h : mayB (decI p q r s) = false) :
    Calls Tryz.prog 25 #[.agg #[.int .u8 p, .int .u8 q, .int .u8 r, .int .u8 s]] w fun e w' => e = .returned (.tuple #[.agg #[.int .u8 0, .int .u8 0, .int .u8 0, .int .u8 0, .int .i64 0], .int .i64 190]) ∧ Chg Non w w' := by
  cases hk : kdAt p with
  | none_ => exact rdec_none0 p q r s w hf hk h
  | an => exact rdec_an0 p q r s w hf hk h
  | abc => exact rdec_abc0 p q r s w hf hk h
  | abn => exact rdec_abn0 p q r s w hf hk h
  | n_ => exact rdec_n0 p q r s w hf hk h
  | ab => exact rdec_ab0 p q r s w hf hk h
  | no => exact rdec_no0 p q r s w hf hk h

end Go.Proofs.YtpcmnphohneddaaGreatDoor
