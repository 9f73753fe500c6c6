/- The document's answer of layer 19: Bytes, Decode; the law's 'is'. (Written by wip/gen_riB.py.) -/
import Derived.Test.YtpcmnphohneddaaDoorRiA
namespace Go.Proofs.YtpcmnphohneddaaDoor
open Go.RowKit
set_option linter.unusedVariables false

theorem info_rins : (Tryd.prog.info? 23).map (·.size) = some 5 := by kernel_rfl
theorem kd_n (k : Nat) : (opAt k).n = (kdF (kdAt k)).2.2.2 := by
  have h := (kd_form k).1
  rw [← h]
theorem enc_kd (op a b c m : Nat) : encI ⟨op, a, b, c, m⟩ = if 255 < (kdF (kdAt op)).2.2.2 then (op, a, m / 256, m % 256) else if 0 < (kdF (kdAt op)).2.2.2 then (op, a, b, m) else (op, a, b, c) := by
  unfold encI
  simp only [kd_n, Int.toNat_natCast]
theorem dec_kd (p q r s : Nat) : decI p q r s = if 255 < (kdF (kdAt p)).2.2.2 then ⟨p, q, 0, 0, (256 * r + s : Nat)⟩ else if 0 < (kdF (kdAt p)).2.2.2 then ⟨p, q, r, 0, s⟩ else ⟨p, q, r, s, 0⟩ := by
  unfold decI
  simp only [kd_n]
  split
  · simp
  · rfl
set_option maxRecDepth 100000 in
set_option maxHeartbeats 1000000 in
theorem rbytes_none (op a b c m : Nat) (w : World) (hk : kdAt op = .none_) (hm : m < 256) :
    Calls Tryd.prog 12 #[.agg #[.int .u8 op, .int .u8 a, .int .u8 b, .int .u8 c, .int .i64 m]] w fun e w' => e = .returned (.agg (fourC (encI ⟨op, a, b, c, m⟩))) ∧ Chg Non w w' := by
  have he : encI ⟨op, a, b, c, m⟩ = (op, a, b, c) := by rw [enc_kd, hk]; rfl
  rw [he]
  have HF := Lib.hid (fun w => Form_ok op w)
  rw [hk] at HF
  rw [show (⟨(kdL .none_).toArray⟩ : ByteArray) = ⟨#[110, 111, 110, 101]⟩ from rfl] at HF
  have h0 : (m : Int) < 256 := by omega
  clear hk he hm
  go_enter Tryd.func12, Tryd.ntmps12
  go_wp2_with fail
  refine (HF.out _).mono ?_
  rintro e w1 ⟨rfl, rfl⟩
  go_wp2_with fail
  exact bodyPost_ret (results_cell_row Tryd.results12 _ _ (w.heap.size + 1) 24 #[.int .u8 op, .int .u8 a, .int .u8 b, .int .u8 c] (0, 0) _ rfl (al_2_1 _ _ _) Tryd.underlying24 rfl info_four) rfl ⟨by simp [fourC], ((Chg.refl Non w).alloc _).alloc _⟩
set_option maxRecDepth 100000 in
set_option maxHeartbeats 1000000 in
theorem rbytes_an (op a b c m : Nat) (w : World) (hk : kdAt op = .an) (hm : m < 65536) :
    Calls Tryd.prog 12 #[.agg #[.int .u8 op, .int .u8 a, .int .u8 b, .int .u8 c, .int .i64 m]] w fun e w' => e = .returned (.agg (fourC (encI ⟨op, a, b, c, m⟩))) ∧ Chg Non w w' := by
  have he : encI ⟨op, a, b, c, m⟩ = (op, a, m / 256, m % 256) := by rw [enc_kd, hk]; rfl
  rw [he]
  have HF := Lib.hid (fun w => Form_ok op w)
  rw [hk] at HF
  rw [show (⟨(kdL .an).toArray⟩ : ByteArray) = ⟨#[97, 110]⟩ from rfl] at HF
  have h0 : (m : Int) < 65536 := by omega
  clear hk he hm
  go_enter Tryd.func12, Tryd.ntmps12
  go_wp2_with fail
  refine (HF.out _).mono ?_
  rintro e w1 ⟨rfl, rfl⟩
  go_wp2_with fail
  exact bodyPost_ret (results_cell_row Tryd.results12 _ _ (w.heap.size + 1) 24 #[.int .u8 op, .int .u8 a, .int .u8 ((m : Int) / 256), .int .u8 ((m : Int) % 256)] (0, 0) _ rfl (al_2_1 _ _ _) Tryd.underlying24 rfl info_four) rfl ⟨by simp [fourC], ((Chg.refl Non w).alloc _).alloc _⟩
set_option maxRecDepth 100000 in
set_option maxHeartbeats 1000000 in
theorem rbytes_abc (op a b c m : Nat) (w : World) (hk : kdAt op = .abc) (hm : m < 256) :
    Calls Tryd.prog 12 #[.agg #[.int .u8 op, .int .u8 a, .int .u8 b, .int .u8 c, .int .i64 m]] w fun e w' => e = .returned (.agg (fourC (encI ⟨op, a, b, c, m⟩))) ∧ Chg Non w w' := by
  have he : encI ⟨op, a, b, c, m⟩ = (op, a, b, c) := by rw [enc_kd, hk]; rfl
  rw [he]
  have HF := Lib.hid (fun w => Form_ok op w)
  rw [hk] at HF
  rw [show (⟨(kdL .abc).toArray⟩ : ByteArray) = ⟨#[97, 98, 99]⟩ from rfl] at HF
  have h0 : (m : Int) < 256 := by omega
  clear hk he hm
  go_enter Tryd.func12, Tryd.ntmps12
  go_wp2_with fail
  refine (HF.out _).mono ?_
  rintro e w1 ⟨rfl, rfl⟩
  go_wp2_with fail
  exact bodyPost_ret (results_cell_row Tryd.results12 _ _ (w.heap.size + 1) 24 #[.int .u8 op, .int .u8 a, .int .u8 b, .int .u8 c] (0, 0) _ rfl (al_2_1 _ _ _) Tryd.underlying24 rfl info_four) rfl ⟨by simp [fourC], ((Chg.refl Non w).alloc _).alloc _⟩
set_option maxRecDepth 100000 in
set_option maxHeartbeats 1000000 in
theorem rbytes_abn (op a b c m : Nat) (w : World) (hk : kdAt op = .abn) (hm : m < 256) :
    Calls Tryd.prog 12 #[.agg #[.int .u8 op, .int .u8 a, .int .u8 b, .int .u8 c, .int .i64 m]] w fun e w' => e = .returned (.agg (fourC (encI ⟨op, a, b, c, m⟩))) ∧ Chg Non w w' := by
  have he : encI ⟨op, a, b, c, m⟩ = (op, a, b, m) := by rw [enc_kd, hk]; rfl
  rw [he]
  have HF := Lib.hid (fun w => Form_ok op w)
  rw [hk] at HF
  rw [show (⟨(kdL .abn).toArray⟩ : ByteArray) = ⟨#[97, 98, 110]⟩ from rfl] at HF
  have h0 : (m : Int) < 256 := by omega
  clear hk he hm
  go_enter Tryd.func12, Tryd.ntmps12
  go_wp2_with fail
  refine (HF.out _).mono ?_
  rintro e w1 ⟨rfl, rfl⟩
  go_wp2_with fail
  exact bodyPost_ret (results_cell_row Tryd.results12 _ _ (w.heap.size + 1) 24 #[.int .u8 op, .int .u8 a, .int .u8 b, .int .u8 m] (0, 0) _ rfl (al_2_1 _ _ _) Tryd.underlying24 rfl info_four) rfl ⟨by simp [fourC], ((Chg.refl Non w).alloc _).alloc _⟩
set_option maxRecDepth 100000 in
set_option maxHeartbeats 1000000 in
theorem rbytes_n (op a b c m : Nat) (w : World) (hk : kdAt op = .n_) (hm : m < 65536) :
    Calls Tryd.prog 12 #[.agg #[.int .u8 op, .int .u8 a, .int .u8 b, .int .u8 c, .int .i64 m]] w fun e w' => e = .returned (.agg (fourC (encI ⟨op, a, b, c, m⟩))) ∧ Chg Non w w' := by
  have he : encI ⟨op, a, b, c, m⟩ = (op, a, m / 256, m % 256) := by rw [enc_kd, hk]; rfl
  rw [he]
  have HF := Lib.hid (fun w => Form_ok op w)
  rw [hk] at HF
  rw [show (⟨(kdL .n_).toArray⟩ : ByteArray) = ⟨#[110]⟩ from rfl] at HF
  have h0 : (m : Int) < 65536 := by omega
  clear hk he hm
  go_enter Tryd.func12, Tryd.ntmps12
  go_wp2_with fail
  refine (HF.out _).mono ?_
  rintro e w1 ⟨rfl, rfl⟩
  go_wp2_with fail
  exact bodyPost_ret (results_cell_row Tryd.results12 _ _ (w.heap.size + 1) 24 #[.int .u8 op, .int .u8 a, .int .u8 ((m : Int) / 256), .int .u8 ((m : Int) % 256)] (0, 0) _ rfl (al_2_1 _ _ _) Tryd.underlying24 rfl info_four) rfl ⟨by simp [fourC], ((Chg.refl Non w).alloc _).alloc _⟩
set_option maxRecDepth 100000 in
set_option maxHeartbeats 1000000 in
theorem rbytes_ab (op a b c m : Nat) (w : World) (hk : kdAt op = .ab) (hm : m < 256) :
    Calls Tryd.prog 12 #[.agg #[.int .u8 op, .int .u8 a, .int .u8 b, .int .u8 c, .int .i64 m]] w fun e w' => e = .returned (.agg (fourC (encI ⟨op, a, b, c, m⟩))) ∧ Chg Non w w' := by
  have he : encI ⟨op, a, b, c, m⟩ = (op, a, b, c) := by rw [enc_kd, hk]; rfl
  rw [he]
  have HF := Lib.hid (fun w => Form_ok op w)
  rw [hk] at HF
  rw [show (⟨(kdL .ab).toArray⟩ : ByteArray) = ⟨#[97, 98]⟩ from rfl] at HF
  have h0 : (m : Int) < 256 := by omega
  clear hk he hm
  go_enter Tryd.func12, Tryd.ntmps12
  go_wp2_with fail
  refine (HF.out _).mono ?_
  rintro e w1 ⟨rfl, rfl⟩
  go_wp2_with fail
  exact bodyPost_ret (results_cell_row Tryd.results12 _ _ (w.heap.size + 1) 24 #[.int .u8 op, .int .u8 a, .int .u8 b, .int .u8 c] (0, 0) _ rfl (al_2_1 _ _ _) Tryd.underlying24 rfl info_four) rfl ⟨by simp [fourC], ((Chg.refl Non w).alloc _).alloc _⟩
theorem rBytes_ok (op a b c : Nat) (n : Int) (e1 e2 e3 e4 : Nat) (w : World) (h : mayB ⟨op, a, b, c, n⟩ = true) (he : encI ⟨op, a, b, c, n⟩ = (e1, e2, e3, e4)) :
    Calls Tryd.prog 12 #[.agg #[.int .u8 op, .int .u8 a, .int .u8 b, .int .u8 c, .int .i64 n]] w fun e w' => e = .returned (.agg #[.int .u8 e1, .int .u8 e2, .int .u8 e3, .int .u8 e4]) ∧ Chg Non w w' := by
  have hi := (mayB_iff _).1 h
  obtain ⟨ho, _, _, _, hn0, hn1⟩ := hi
  simp only at ho hn0 hn1
  obtain ⟨m, rfl⟩ : ∃ m : Nat, n = m := ⟨n.toNat, by omega⟩
  rw [kd_n] at hn1
  have hok : kdAt op ≠ .no := (kd_form op).2.1 (by simp [okB, ho.1, ho.2])
  have hr : (Value.agg #[.int .u8 e1, .int .u8 e2, .int .u8 e3, .int .u8 e4]) = .agg (fourC (encI ⟨op, a, b, c, m⟩)) := by rw [he]; rfl
  rw [hr]
  cases hk : kdAt op with
  | no => exact absurd hk hok
  | none_ => exact rbytes_none op a b c m w hk (by rw [hk] at hn1; simp only [kdF] at hn1; omega)
  | an => exact rbytes_an op a b c m w hk (by rw [hk] at hn1; simp only [kdF] at hn1; omega)
  | abc => exact rbytes_abc op a b c m w hk (by rw [hk] at hn1; simp only [kdF] at hn1; omega)
  | abn => exact rbytes_abn op a b c m w hk (by rw [hk] at hn1; simp only [kdF] at hn1; omega)
  | n_ => exact rbytes_n op a b c m w hk (by rw [hk] at hn1; simp only [kdF] at hn1; omega)
  | ab => exact rbytes_ab op a b c m w hk (by rw [hk] at hn1; simp only [kdF] at hn1; omega)
set_option maxRecDepth 100000 in
set_option maxHeartbeats 1000000 in
theorem rdec_none1 (p q r s : Nat) (w : World) (hf : Four (p, q, r, s)) (hk : kdAt p = .none_) (hm : mayB (decI p q r s) = true) :
    Calls Tryd.prog 14 #[.agg #[.int .u8 p, .int .u8 q, .int .u8 r, .int .u8 s]] w fun e w' => e = .returned (.tuple #[.agg (insC (decI p q r s)), .int .i64 0]) ∧ Chg Non w w' := by
  have hd : decI p q r s = ⟨p, q, r, s, 0⟩ := by rw [dec_kd, hk]; rfl
  rw [hd] at hm ⊢
  obtain ⟨f1, f2, f3, f4⟩ := hf
  simp only at f1 f2 f3 f4
  have HF := Lib.hid (fun w => Form_ok p w)
  rw [hk] at HF
  rw [show (⟨(kdL .none_).toArray⟩ : ByteArray) = ⟨#[110, 111, 110, 101]⟩ from rfl] at HF
  have HM := Lib.hid (fun w => rMay_ok p q r s 0 w ⟨f1, f2, f3, f4, by show -9223372036854775808 ≤ (0 : Int); omega, by show (0 : Int) ≤ 9223372036854775807; omega⟩)
  rw [hm] at HM
  clear hk hm hd
  go_enter Tryd.func14, Tryd.ntmps14
  go_wp2_with fail
  refine (HF.out _).mono ?_
  rintro e w1 ⟨rfl, rfl⟩
  go_wp2_with fail
  refine (HM.out _).mono ?_
  rintro e w2 ⟨rfl, hg⟩
  have HG : Hid (Chg Non w w2) := Lib.hid (((((Chg.refl Non w).alloc _).alloc _).alloc _).then_non hg)
  have HR := Lib.hid (blockN hg (al_3_1 _ _ _ _))
  obtain ⟨⟨xz, x0, x1, x2, x3, x4⟩, _⟩ := (Blk5.mk (blockN hg (al_3_2 _ _ _ _))).all
  clear hg
  go_wp2_with (first
    | (refine sel none (.store 23 (.tmp 2) (.tmp 44)) ?_
       refine wpList_store_rowA rfl 23 (.tmp 2) (.tmp 44) rfl (w.heap.size + 1) #[.int .u8 p, .int .u8 q, .int .u8 r, .int .u8 s, .int .i64 0] rfl rfl 23 _ HR.out info_rins rfl (by simp [Value.oneCell']) ?_
       intro W hgW hbW
       have HBW := Lib.hid hbW
       have HGW := Lib.hid hgW
       clear hbW hgW))
  exact bodyPost_ret (results_ct Tryd.results14 _ _ (w.heap.size + 1) 23 _ (0, 0) _ (.int .i64 0) rfl rfl HBW.out Tryd.underlying23 rfl info_rins) rfl ⟨rfl, HG.out.then_new HGW.out (fun x e => by omega)⟩
set_option maxRecDepth 100000 in
set_option maxHeartbeats 1000000 in
theorem rdec_none0 (p q r s : Nat) (w : World) (hf : Four (p, q, r, s)) (hk : kdAt p = .none_) (hm : mayB (decI p q r s) = false) :
    Calls Tryd.prog 14 #[.agg #[.int .u8 p, .int .u8 q, .int .u8 r, .int .u8 s]] w fun e w' => e = .returned (.tuple #[.agg #[.int .u8 0, .int .u8 0, .int .u8 0, .int .u8 0, .int .i64 0], .int .i64 190]) ∧ Chg Non w w' := by
  have hd : decI p q r s = ⟨p, q, r, s, 0⟩ := by rw [dec_kd, hk]; rfl
  rw [hd] at hm
  obtain ⟨f1, f2, f3, f4⟩ := hf
  simp only at f1 f2 f3 f4
  have HF := Lib.hid (fun w => Form_ok p w)
  rw [hk] at HF
  rw [show (⟨(kdL .none_).toArray⟩ : ByteArray) = ⟨#[110, 111, 110, 101]⟩ from rfl] at HF
  have HM := Lib.hid (fun w => rMay_ok p q r s 0 w ⟨f1, f2, f3, f4, by show -9223372036854775808 ≤ (0 : Int); omega, by show (0 : Int) ≤ 9223372036854775807; omega⟩)
  rw [hm] at HM
  clear hk hm hd
  go_enter Tryd.func14, Tryd.ntmps14
  go_wp2_with fail
  refine (HF.out _).mono ?_
  rintro e w1 ⟨rfl, rfl⟩
  go_wp2_with fail
  refine (HM.out _).mono ?_
  rintro e w2 ⟨rfl, hg⟩
  have HG : Hid (Chg Non w w2) := Lib.hid (((((Chg.refl Non w).alloc _).alloc _).alloc _).then_non hg)
  have HR := Lib.hid (blockN hg (al_3_1 _ _ _ _))
  obtain ⟨⟨xz, x0, x1, x2, x3, x4⟩, _⟩ := (Blk5.mk (blockN hg (al_3_2 _ _ _ _))).all
  clear hg
  go_wp2_with (first
    | (refine sel none (.store 23 (.tmp 2) (.tmp 43)) ?_
       refine wpList_store_rowA rfl 23 (.tmp 2) (.tmp 43) rfl (w.heap.size + 1) #[.int .u8 0, .int .u8 0, .int .u8 0, .int .u8 0, .int .i64 0] rfl rfl 23 _ HR.out info_rins rfl (by simp [Value.oneCell']) ?_
       intro W hgW hbW
       have HBW := Lib.hid hbW
       have HGW := Lib.hid hgW
       clear hbW hgW))
  exact bodyPost_ret (results_ct Tryd.results14 _ _ (w.heap.size + 1) 23 _ (0, 0) _ (.int .i64 190) rfl rfl HBW.out Tryd.underlying23 rfl info_rins) rfl ⟨rfl, HG.out.then_new HGW.out (fun x e => by omega)⟩
set_option maxRecDepth 100000 in
set_option maxHeartbeats 1000000 in
theorem rdec_an1 (p q r s : Nat) (w : World) (hf : Four (p, q, r, s)) (hk : kdAt p = .an) (hm : mayB (decI p q r s) = true) :
    Calls Tryd.prog 14 #[.agg #[.int .u8 p, .int .u8 q, .int .u8 r, .int .u8 s]] w fun e w' => e = .returned (.tuple #[.agg (insC (decI p q r s)), .int .i64 0]) ∧ Chg Non w w' := by
  have hd : decI p q r s = ⟨p, q, 0, 0, (256 * r + s : Nat)⟩ := by rw [dec_kd, hk]; rfl
  rw [hd] at hm ⊢
  obtain ⟨f1, f2, f3, f4⟩ := hf
  simp only at f1 f2 f3 f4
  have HF := Lib.hid (fun w => Form_ok p w)
  rw [hk] at HF
  rw [show (⟨(kdL .an).toArray⟩ : ByteArray) = ⟨#[97, 110]⟩ from rfl] at HF
  obtain ⟨N, hN⟩ : ∃ N, 256 * r + s = N := ⟨_, rfl⟩
  have hNN : 256 * (r : Int) + s = N := by omega
  rw [hN] at hm ⊢
  have HM := Lib.hid (fun w => rMay_ok p q 0 0 N w ⟨f1, f2, by show (0 : Nat) < 256; omega, by show (0 : Nat) < 256; omega, by show -9223372036854775808 ≤ (N : Int); omega, by show (N : Int) ≤ 9223372036854775807; omega⟩)
  rw [hm] at HM
  clear hk hm hd
  go_enter Tryd.func14, Tryd.ntmps14
  go_wp2_with fail
  refine (HF.out _).mono ?_
  rintro e w1 ⟨rfl, rfl⟩
  go_wp2_with fail
  refine (HM.out _).mono ?_
  rintro e w2 ⟨rfl, hg⟩
  have HG : Hid (Chg Non w w2) := Lib.hid (((((Chg.refl Non w).alloc _).alloc _).alloc _).then_non hg)
  have HR := Lib.hid (blockN hg (al_3_1 _ _ _ _))
  obtain ⟨⟨xz, x0, x1, x2, x3, x4⟩, _⟩ := (Blk5.mk (blockN hg (al_3_2 _ _ _ _))).all
  clear hg
  go_wp2_with (first
    | (refine sel none (.store 23 (.tmp 2) (.tmp 44)) ?_
       refine wpList_store_rowA rfl 23 (.tmp 2) (.tmp 44) rfl (w.heap.size + 1) #[.int .u8 p, .int .u8 q, .int .u8 0, .int .u8 0, .int .i64 N] rfl rfl 23 _ HR.out info_rins rfl (by simp [Value.oneCell']) ?_
       intro W hgW hbW
       have HBW := Lib.hid hbW
       have HGW := Lib.hid hgW
       clear hbW hgW))
  exact bodyPost_ret (results_ct Tryd.results14 _ _ (w.heap.size + 1) 23 _ (0, 0) _ (.int .i64 0) rfl rfl HBW.out Tryd.underlying23 rfl info_rins) rfl ⟨rfl, HG.out.then_new HGW.out (fun x e => by omega)⟩
set_option maxRecDepth 100000 in
set_option maxHeartbeats 1000000 in
theorem rdec_an0 (p q r s : Nat) (w : World) (hf : Four (p, q, r, s)) (hk : kdAt p = .an) (hm : mayB (decI p q r s) = false) :
    Calls Tryd.prog 14 #[.agg #[.int .u8 p, .int .u8 q, .int .u8 r, .int .u8 s]] w fun e w' => e = .returned (.tuple #[.agg #[.int .u8 0, .int .u8 0, .int .u8 0, .int .u8 0, .int .i64 0], .int .i64 190]) ∧ Chg Non w w' := by
  have hd : decI p q r s = ⟨p, q, 0, 0, (256 * r + s : Nat)⟩ := by rw [dec_kd, hk]; rfl
  rw [hd] at hm
  obtain ⟨f1, f2, f3, f4⟩ := hf
  simp only at f1 f2 f3 f4
  have HF := Lib.hid (fun w => Form_ok p w)
  rw [hk] at HF
  rw [show (⟨(kdL .an).toArray⟩ : ByteArray) = ⟨#[97, 110]⟩ from rfl] at HF
  obtain ⟨N, hN⟩ : ∃ N, 256 * r + s = N := ⟨_, rfl⟩
  have hNN : 256 * (r : Int) + s = N := by omega
  rw [hN] at hm
  have HM := Lib.hid (fun w => rMay_ok p q 0 0 N w ⟨f1, f2, by show (0 : Nat) < 256; omega, by show (0 : Nat) < 256; omega, by show -9223372036854775808 ≤ (N : Int); omega, by show (N : Int) ≤ 9223372036854775807; omega⟩)
  rw [hm] at HM
  clear hk hm hd
  go_enter Tryd.func14, Tryd.ntmps14
  go_wp2_with fail
  refine (HF.out _).mono ?_
  rintro e w1 ⟨rfl, rfl⟩
  go_wp2_with fail
  refine (HM.out _).mono ?_
  rintro e w2 ⟨rfl, hg⟩
  have HG : Hid (Chg Non w w2) := Lib.hid (((((Chg.refl Non w).alloc _).alloc _).alloc _).then_non hg)
  have HR := Lib.hid (blockN hg (al_3_1 _ _ _ _))
  obtain ⟨⟨xz, x0, x1, x2, x3, x4⟩, _⟩ := (Blk5.mk (blockN hg (al_3_2 _ _ _ _))).all
  clear hg
  go_wp2_with (first
    | (refine sel none (.store 23 (.tmp 2) (.tmp 43)) ?_
       refine wpList_store_rowA rfl 23 (.tmp 2) (.tmp 43) rfl (w.heap.size + 1) #[.int .u8 0, .int .u8 0, .int .u8 0, .int .u8 0, .int .i64 0] rfl rfl 23 _ HR.out info_rins rfl (by simp [Value.oneCell']) ?_
       intro W hgW hbW
       have HBW := Lib.hid hbW
       have HGW := Lib.hid hgW
       clear hbW hgW))
  exact bodyPost_ret (results_ct Tryd.results14 _ _ (w.heap.size + 1) 23 _ (0, 0) _ (.int .i64 190) rfl rfl HBW.out Tryd.underlying23 rfl info_rins) rfl ⟨rfl, HG.out.then_new HGW.out (fun x e => by omega)⟩
set_option maxRecDepth 100000 in
set_option maxHeartbeats 1000000 in
theorem rdec_abc1 (p q r s : Nat) (w : World) (hf : Four (p, q, r, s)) (hk : kdAt p = .abc) (hm : mayB (decI p q r s) = true) :
    Calls Tryd.prog 14 #[.agg #[.int .u8 p, .int .u8 q, .int .u8 r, .int .u8 s]] w fun e w' => e = .returned (.tuple #[.agg (insC (decI p q r s)), .int .i64 0]) ∧ Chg Non w w' := by
  have hd : decI p q r s = ⟨p, q, r, s, 0⟩ := by rw [dec_kd, hk]; rfl
  rw [hd] at hm ⊢
  obtain ⟨f1, f2, f3, f4⟩ := hf
  simp only at f1 f2 f3 f4
  have HF := Lib.hid (fun w => Form_ok p w)
  rw [hk] at HF
  rw [show (⟨(kdL .abc).toArray⟩ : ByteArray) = ⟨#[97, 98, 99]⟩ from rfl] at HF
  have HM := Lib.hid (fun w => rMay_ok p q r s 0 w ⟨f1, f2, f3, f4, by show -9223372036854775808 ≤ (0 : Int); omega, by show (0 : Int) ≤ 9223372036854775807; omega⟩)
  rw [hm] at HM
  clear hk hm hd
  go_enter Tryd.func14, Tryd.ntmps14
  go_wp2_with fail
  refine (HF.out _).mono ?_
  rintro e w1 ⟨rfl, rfl⟩
  go_wp2_with fail
  refine (HM.out _).mono ?_
  rintro e w2 ⟨rfl, hg⟩
  have HG : Hid (Chg Non w w2) := Lib.hid (((((Chg.refl Non w).alloc _).alloc _).alloc _).then_non hg)
  have HR := Lib.hid (blockN hg (al_3_1 _ _ _ _))
  obtain ⟨⟨xz, x0, x1, x2, x3, x4⟩, _⟩ := (Blk5.mk (blockN hg (al_3_2 _ _ _ _))).all
  clear hg
  go_wp2_with (first
    | (refine sel none (.store 23 (.tmp 2) (.tmp 44)) ?_
       refine wpList_store_rowA rfl 23 (.tmp 2) (.tmp 44) rfl (w.heap.size + 1) #[.int .u8 p, .int .u8 q, .int .u8 r, .int .u8 s, .int .i64 0] rfl rfl 23 _ HR.out info_rins rfl (by simp [Value.oneCell']) ?_
       intro W hgW hbW
       have HBW := Lib.hid hbW
       have HGW := Lib.hid hgW
       clear hbW hgW))
  exact bodyPost_ret (results_ct Tryd.results14 _ _ (w.heap.size + 1) 23 _ (0, 0) _ (.int .i64 0) rfl rfl HBW.out Tryd.underlying23 rfl info_rins) rfl ⟨rfl, HG.out.then_new HGW.out (fun x e => by omega)⟩
set_option maxRecDepth 100000 in
set_option maxHeartbeats 1000000 in
theorem rdec_abc0 (p q r s : Nat) (w : World) (hf : Four (p, q, r, s)) (hk : kdAt p = .abc) (hm : mayB (decI p q r s) = false) :
    Calls Tryd.prog 14 #[.agg #[.int .u8 p, .int .u8 q, .int .u8 r, .int .u8 s]] w fun e w' => e = .returned (.tuple #[.agg #[.int .u8 0, .int .u8 0, .int .u8 0, .int .u8 0, .int .i64 0], .int .i64 190]) ∧ Chg Non w w' := by
  have hd : decI p q r s = ⟨p, q, r, s, 0⟩ := by rw [dec_kd, hk]; rfl
  rw [hd] at hm
  obtain ⟨f1, f2, f3, f4⟩ := hf
  simp only at f1 f2 f3 f4
  have HF := Lib.hid (fun w => Form_ok p w)
  rw [hk] at HF
  rw [show (⟨(kdL .abc).toArray⟩ : ByteArray) = ⟨#[97, 98, 99]⟩ from rfl] at HF
  have HM := Lib.hid (fun w => rMay_ok p q r s 0 w ⟨f1, f2, f3, f4, by show -9223372036854775808 ≤ (0 : Int); omega, by show (0 : Int) ≤ 9223372036854775807; omega⟩)
  rw [hm] at HM
  clear hk hm hd
  go_enter Tryd.func14, Tryd.ntmps14
  go_wp2_with fail
  refine (HF.out _).mono ?_
  rintro e w1 ⟨rfl, rfl⟩
  go_wp2_with fail
  refine (HM.out _).mono ?_
  rintro e w2 ⟨rfl, hg⟩
  have HG : Hid (Chg Non w w2) := Lib.hid (((((Chg.refl Non w).alloc _).alloc _).alloc _).then_non hg)
  have HR := Lib.hid (blockN hg (al_3_1 _ _ _ _))
  obtain ⟨⟨xz, x0, x1, x2, x3, x4⟩, _⟩ := (Blk5.mk (blockN hg (al_3_2 _ _ _ _))).all
  clear hg
  go_wp2_with (first
    | (refine sel none (.store 23 (.tmp 2) (.tmp 43)) ?_
       refine wpList_store_rowA rfl 23 (.tmp 2) (.tmp 43) rfl (w.heap.size + 1) #[.int .u8 0, .int .u8 0, .int .u8 0, .int .u8 0, .int .i64 0] rfl rfl 23 _ HR.out info_rins rfl (by simp [Value.oneCell']) ?_
       intro W hgW hbW
       have HBW := Lib.hid hbW
       have HGW := Lib.hid hgW
       clear hbW hgW))
  exact bodyPost_ret (results_ct Tryd.results14 _ _ (w.heap.size + 1) 23 _ (0, 0) _ (.int .i64 190) rfl rfl HBW.out Tryd.underlying23 rfl info_rins) rfl ⟨rfl, HG.out.then_new HGW.out (fun x e => by omega)⟩
set_option maxRecDepth 100000 in
set_option maxHeartbeats 1000000 in
theorem rdec_abn1 (p q r s : Nat) (w : World) (hf : Four (p, q, r, s)) (hk : kdAt p = .abn) (hm : mayB (decI p q r s) = true) :
    Calls Tryd.prog 14 #[.agg #[.int .u8 p, .int .u8 q, .int .u8 r, .int .u8 s]] w fun e w' => e = .returned (.tuple #[.agg (insC (decI p q r s)), .int .i64 0]) ∧ Chg Non w w' := by
  have hd : decI p q r s = ⟨p, q, r, 0, s⟩ := by rw [dec_kd, hk]; rfl
  rw [hd] at hm ⊢
  obtain ⟨f1, f2, f3, f4⟩ := hf
  simp only at f1 f2 f3 f4
  have HF := Lib.hid (fun w => Form_ok p w)
  rw [hk] at HF
  rw [show (⟨(kdL .abn).toArray⟩ : ByteArray) = ⟨#[97, 98, 110]⟩ from rfl] at HF
  have HM := Lib.hid (fun w => rMay_ok p q r 0 s w ⟨f1, f2, f3, by show (0 : Nat) < 256; omega, by show -9223372036854775808 ≤ (s : Int); omega, by show (s : Int) ≤ 9223372036854775807; omega⟩)
  rw [hm] at HM
  clear hk hm hd
  go_enter Tryd.func14, Tryd.ntmps14
  go_wp2_with fail
  refine (HF.out _).mono ?_
  rintro e w1 ⟨rfl, rfl⟩
  go_wp2_with fail
  refine (HM.out _).mono ?_
  rintro e w2 ⟨rfl, hg⟩
  have HG : Hid (Chg Non w w2) := Lib.hid (((((Chg.refl Non w).alloc _).alloc _).alloc _).then_non hg)
  have HR := Lib.hid (blockN hg (al_3_1 _ _ _ _))
  obtain ⟨⟨xz, x0, x1, x2, x3, x4⟩, _⟩ := (Blk5.mk (blockN hg (al_3_2 _ _ _ _))).all
  clear hg
  go_wp2_with (first
    | (refine sel none (.store 23 (.tmp 2) (.tmp 44)) ?_
       refine wpList_store_rowA rfl 23 (.tmp 2) (.tmp 44) rfl (w.heap.size + 1) #[.int .u8 p, .int .u8 q, .int .u8 r, .int .u8 0, .int .i64 s] rfl rfl 23 _ HR.out info_rins rfl (by simp [Value.oneCell']) ?_
       intro W hgW hbW
       have HBW := Lib.hid hbW
       have HGW := Lib.hid hgW
       clear hbW hgW))
  exact bodyPost_ret (results_ct Tryd.results14 _ _ (w.heap.size + 1) 23 _ (0, 0) _ (.int .i64 0) rfl rfl HBW.out Tryd.underlying23 rfl info_rins) rfl ⟨rfl, HG.out.then_new HGW.out (fun x e => by omega)⟩
set_option maxRecDepth 100000 in
set_option maxHeartbeats 1000000 in
theorem rdec_abn0 (p q r s : Nat) (w : World) (hf : Four (p, q, r, s)) (hk : kdAt p = .abn) (hm : mayB (decI p q r s) = false) :
    Calls Tryd.prog 14 #[.agg #[.int .u8 p, .int .u8 q, .int .u8 r, .int .u8 s]] w fun e w' => e = .returned (.tuple #[.agg #[.int .u8 0, .int .u8 0, .int .u8 0, .int .u8 0, .int .i64 0], .int .i64 190]) ∧ Chg Non w w' := by
  have hd : decI p q r s = ⟨p, q, r, 0, s⟩ := by rw [dec_kd, hk]; rfl
  rw [hd] at hm
  obtain ⟨f1, f2, f3, f4⟩ := hf
  simp only at f1 f2 f3 f4
  have HF := Lib.hid (fun w => Form_ok p w)
  rw [hk] at HF
  rw [show (⟨(kdL .abn).toArray⟩ : ByteArray) = ⟨#[97, 98, 110]⟩ from rfl] at HF
  have HM := Lib.hid (fun w => rMay_ok p q r 0 s w ⟨f1, f2, f3, by show (0 : Nat) < 256; omega, by show -9223372036854775808 ≤ (s : Int); omega, by show (s : Int) ≤ 9223372036854775807; omega⟩)
  rw [hm] at HM
  clear hk hm hd
  go_enter Tryd.func14, Tryd.ntmps14
  go_wp2_with fail
  refine (HF.out _).mono ?_
  rintro e w1 ⟨rfl, rfl⟩
  go_wp2_with fail
  refine (HM.out _).mono ?_
  rintro e w2 ⟨rfl, hg⟩
  have HG : Hid (Chg Non w w2) := Lib.hid (((((Chg.refl Non w).alloc _).alloc _).alloc _).then_non hg)
  have HR := Lib.hid (blockN hg (al_3_1 _ _ _ _))
  obtain ⟨⟨xz, x0, x1, x2, x3, x4⟩, _⟩ := (Blk5.mk (blockN hg (al_3_2 _ _ _ _))).all
  clear hg
  go_wp2_with (first
    | (refine sel none (.store 23 (.tmp 2) (.tmp 43)) ?_
       refine wpList_store_rowA rfl 23 (.tmp 2) (.tmp 43) rfl (w.heap.size + 1) #[.int .u8 0, .int .u8 0, .int .u8 0, .int .u8 0, .int .i64 0] rfl rfl 23 _ HR.out info_rins rfl (by simp [Value.oneCell']) ?_
       intro W hgW hbW
       have HBW := Lib.hid hbW
       have HGW := Lib.hid hgW
       clear hbW hgW))
  exact bodyPost_ret (results_ct Tryd.results14 _ _ (w.heap.size + 1) 23 _ (0, 0) _ (.int .i64 190) rfl rfl HBW.out Tryd.underlying23 rfl info_rins) rfl ⟨rfl, HG.out.then_new HGW.out (fun x e => by omega)⟩
set_option maxRecDepth 100000 in
set_option maxHeartbeats 1000000 in
theorem rdec_n1 (p q r s : Nat) (w : World) (hf : Four (p, q, r, s)) (hk : kdAt p = .n_) (hm : mayB (decI p q r s) = true) :
    Calls Tryd.prog 14 #[.agg #[.int .u8 p, .int .u8 q, .int .u8 r, .int .u8 s]] w fun e w' => e = .returned (.tuple #[.agg (insC (decI p q r s)), .int .i64 0]) ∧ Chg Non w w' := by
  have hd : decI p q r s = ⟨p, q, 0, 0, (256 * r + s : Nat)⟩ := by rw [dec_kd, hk]; rfl
  rw [hd] at hm ⊢
  obtain ⟨f1, f2, f3, f4⟩ := hf
  simp only at f1 f2 f3 f4
  have HF := Lib.hid (fun w => Form_ok p w)
  rw [hk] at HF
  rw [show (⟨(kdL .n_).toArray⟩ : ByteArray) = ⟨#[110]⟩ from rfl] at HF
  obtain ⟨N, hN⟩ : ∃ N, 256 * r + s = N := ⟨_, rfl⟩
  have hNN : 256 * (r : Int) + s = N := by omega
  rw [hN] at hm ⊢
  have HM := Lib.hid (fun w => rMay_ok p q 0 0 N w ⟨f1, f2, by show (0 : Nat) < 256; omega, by show (0 : Nat) < 256; omega, by show -9223372036854775808 ≤ (N : Int); omega, by show (N : Int) ≤ 9223372036854775807; omega⟩)
  rw [hm] at HM
  clear hk hm hd
  go_enter Tryd.func14, Tryd.ntmps14
  go_wp2_with fail
  refine (HF.out _).mono ?_
  rintro e w1 ⟨rfl, rfl⟩
  go_wp2_with fail
  refine (HM.out _).mono ?_
  rintro e w2 ⟨rfl, hg⟩
  have HG : Hid (Chg Non w w2) := Lib.hid (((((Chg.refl Non w).alloc _).alloc _).alloc _).then_non hg)
  have HR := Lib.hid (blockN hg (al_3_1 _ _ _ _))
  obtain ⟨⟨xz, x0, x1, x2, x3, x4⟩, _⟩ := (Blk5.mk (blockN hg (al_3_2 _ _ _ _))).all
  clear hg
  go_wp2_with (first
    | (refine sel none (.store 23 (.tmp 2) (.tmp 44)) ?_
       refine wpList_store_rowA rfl 23 (.tmp 2) (.tmp 44) rfl (w.heap.size + 1) #[.int .u8 p, .int .u8 q, .int .u8 0, .int .u8 0, .int .i64 N] rfl rfl 23 _ HR.out info_rins rfl (by simp [Value.oneCell']) ?_
       intro W hgW hbW
       have HBW := Lib.hid hbW
       have HGW := Lib.hid hgW
       clear hbW hgW))
  exact bodyPost_ret (results_ct Tryd.results14 _ _ (w.heap.size + 1) 23 _ (0, 0) _ (.int .i64 0) rfl rfl HBW.out Tryd.underlying23 rfl info_rins) rfl ⟨rfl, HG.out.then_new HGW.out (fun x e => by omega)⟩
set_option maxRecDepth 100000 in
set_option maxHeartbeats 1000000 in
theorem rdec_n0 (p q r s : Nat) (w : World) (hf : Four (p, q, r, s)) (hk : kdAt p = .n_) (hm : mayB (decI p q r s) = false) :
    Calls Tryd.prog 14 #[.agg #[.int .u8 p, .int .u8 q, .int .u8 r, .int .u8 s]] w fun e w' => e = .returned (.tuple #[.agg #[.int .u8 0, .int .u8 0, .int .u8 0, .int .u8 0, .int .i64 0], .int .i64 190]) ∧ Chg Non w w' := by
  have hd : decI p q r s = ⟨p, q, 0, 0, (256 * r + s : Nat)⟩ := by rw [dec_kd, hk]; rfl
  rw [hd] at hm
  obtain ⟨f1, f2, f3, f4⟩ := hf
  simp only at f1 f2 f3 f4
  have HF := Lib.hid (fun w => Form_ok p w)
  rw [hk] at HF
  rw [show (⟨(kdL .n_).toArray⟩ : ByteArray) = ⟨#[110]⟩ from rfl] at HF
  obtain ⟨N, hN⟩ : ∃ N, 256 * r + s = N := ⟨_, rfl⟩
  have hNN : 256 * (r : Int) + s = N := by omega
  rw [hN] at hm
  have HM := Lib.hid (fun w => rMay_ok p q 0 0 N w ⟨f1, f2, by show (0 : Nat) < 256; omega, by show (0 : Nat) < 256; omega, by show -9223372036854775808 ≤ (N : Int); omega, by show (N : Int) ≤ 9223372036854775807; omega⟩)
  rw [hm] at HM
  clear hk hm hd
  go_enter Tryd.func14, Tryd.ntmps14
  go_wp2_with fail
  refine (HF.out _).mono ?_
  rintro e w1 ⟨rfl, rfl⟩
  go_wp2_with fail
  refine (HM.out _).mono ?_
  rintro e w2 ⟨rfl, hg⟩
  have HG : Hid (Chg Non w w2) := Lib.hid (((((Chg.refl Non w).alloc _).alloc _).alloc _).then_non hg)
  have HR := Lib.hid (blockN hg (al_3_1 _ _ _ _))
  obtain ⟨⟨xz, x0, x1, x2, x3, x4⟩, _⟩ := (Blk5.mk (blockN hg (al_3_2 _ _ _ _))).all
  clear hg
  go_wp2_with (first
    | (refine sel none (.store 23 (.tmp 2) (.tmp 43)) ?_
       refine wpList_store_rowA rfl 23 (.tmp 2) (.tmp 43) rfl (w.heap.size + 1) #[.int .u8 0, .int .u8 0, .int .u8 0, .int .u8 0, .int .i64 0] rfl rfl 23 _ HR.out info_rins rfl (by simp [Value.oneCell']) ?_
       intro W hgW hbW
       have HBW := Lib.hid hbW
       have HGW := Lib.hid hgW
       clear hbW hgW))
  exact bodyPost_ret (results_ct Tryd.results14 _ _ (w.heap.size + 1) 23 _ (0, 0) _ (.int .i64 190) rfl rfl HBW.out Tryd.underlying23 rfl info_rins) rfl ⟨rfl, HG.out.then_new HGW.out (fun x e => by omega)⟩
set_option maxRecDepth 100000 in
set_option maxHeartbeats 1000000 in
theorem rdec_ab1 (p q r s : Nat) (w : World) (hf : Four (p, q, r, s)) (hk : kdAt p = .ab) (hm : mayB (decI p q r s) = true) :
    Calls Tryd.prog 14 #[.agg #[.int .u8 p, .int .u8 q, .int .u8 r, .int .u8 s]] w fun e w' => e = .returned (.tuple #[.agg (insC (decI p q r s)), .int .i64 0]) ∧ Chg Non w w' := by
  have hd : decI p q r s = ⟨p, q, r, s, 0⟩ := by rw [dec_kd, hk]; rfl
  rw [hd] at hm ⊢
  obtain ⟨f1, f2, f3, f4⟩ := hf
  simp only at f1 f2 f3 f4
  have HF := Lib.hid (fun w => Form_ok p w)
  rw [hk] at HF
  rw [show (⟨(kdL .ab).toArray⟩ : ByteArray) = ⟨#[97, 98]⟩ from rfl] at HF
  have HM := Lib.hid (fun w => rMay_ok p q r s 0 w ⟨f1, f2, f3, f4, by show -9223372036854775808 ≤ (0 : Int); omega, by show (0 : Int) ≤ 9223372036854775807; omega⟩)
  rw [hm] at HM
  clear hk hm hd
  go_enter Tryd.func14, Tryd.ntmps14
  go_wp2_with fail
  refine (HF.out _).mono ?_
  rintro e w1 ⟨rfl, rfl⟩
  go_wp2_with fail
  refine (HM.out _).mono ?_
  rintro e w2 ⟨rfl, hg⟩
  have HG : Hid (Chg Non w w2) := Lib.hid (((((Chg.refl Non w).alloc _).alloc _).alloc _).then_non hg)
  have HR := Lib.hid (blockN hg (al_3_1 _ _ _ _))
  obtain ⟨⟨xz, x0, x1, x2, x3, x4⟩, _⟩ := (Blk5.mk (blockN hg (al_3_2 _ _ _ _))).all
  clear hg
  go_wp2_with (first
    | (refine sel none (.store 23 (.tmp 2) (.tmp 44)) ?_
       refine wpList_store_rowA rfl 23 (.tmp 2) (.tmp 44) rfl (w.heap.size + 1) #[.int .u8 p, .int .u8 q, .int .u8 r, .int .u8 s, .int .i64 0] rfl rfl 23 _ HR.out info_rins rfl (by simp [Value.oneCell']) ?_
       intro W hgW hbW
       have HBW := Lib.hid hbW
       have HGW := Lib.hid hgW
       clear hbW hgW))
  exact bodyPost_ret (results_ct Tryd.results14 _ _ (w.heap.size + 1) 23 _ (0, 0) _ (.int .i64 0) rfl rfl HBW.out Tryd.underlying23 rfl info_rins) rfl ⟨rfl, HG.out.then_new HGW.out (fun x e => by omega)⟩
set_option maxRecDepth 100000 in
set_option maxHeartbeats 1000000 in
theorem rdec_ab0 (p q r s : Nat) (w : World) (hf : Four (p, q, r, s)) (hk : kdAt p = .ab) (hm : mayB (decI p q r s) = false) :
    Calls Tryd.prog 14 #[.agg #[.int .u8 p, .int .u8 q, .int .u8 r, .int .u8 s]] w fun e w' => e = .returned (.tuple #[.agg #[.int .u8 0, .int .u8 0, .int .u8 0, .int .u8 0, .int .i64 0], .int .i64 190]) ∧ Chg Non w w' := by
  have hd : decI p q r s = ⟨p, q, r, s, 0⟩ := by rw [dec_kd, hk]; rfl
  rw [hd] at hm
  obtain ⟨f1, f2, f3, f4⟩ := hf
  simp only at f1 f2 f3 f4
  have HF := Lib.hid (fun w => Form_ok p w)
  rw [hk] at HF
  rw [show (⟨(kdL .ab).toArray⟩ : ByteArray) = ⟨#[97, 98]⟩ from rfl] at HF
  have HM := Lib.hid (fun w => rMay_ok p q r s 0 w ⟨f1, f2, f3, f4, by show -9223372036854775808 ≤ (0 : Int); omega, by show (0 : Int) ≤ 9223372036854775807; omega⟩)
  rw [hm] at HM
  clear hk hm hd
  go_enter Tryd.func14, Tryd.ntmps14
  go_wp2_with fail
  refine (HF.out _).mono ?_
  rintro e w1 ⟨rfl, rfl⟩
  go_wp2_with fail
  refine (HM.out _).mono ?_
  rintro e w2 ⟨rfl, hg⟩
  have HG : Hid (Chg Non w w2) := Lib.hid (((((Chg.refl Non w).alloc _).alloc _).alloc _).then_non hg)
  have HR := Lib.hid (blockN hg (al_3_1 _ _ _ _))
  obtain ⟨⟨xz, x0, x1, x2, x3, x4⟩, _⟩ := (Blk5.mk (blockN hg (al_3_2 _ _ _ _))).all
  clear hg
  go_wp2_with (first
    | (refine sel none (.store 23 (.tmp 2) (.tmp 43)) ?_
       refine wpList_store_rowA rfl 23 (.tmp 2) (.tmp 43) rfl (w.heap.size + 1) #[.int .u8 0, .int .u8 0, .int .u8 0, .int .u8 0, .int .i64 0] rfl rfl 23 _ HR.out info_rins rfl (by simp [Value.oneCell']) ?_
       intro W hgW hbW
       have HBW := Lib.hid hbW
       have HGW := Lib.hid hgW
       clear hbW hgW))
  exact bodyPost_ret (results_ct Tryd.results14 _ _ (w.heap.size + 1) 23 _ (0, 0) _ (.int .i64 190) rfl rfl HBW.out Tryd.underlying23 rfl info_rins) rfl ⟨rfl, HG.out.then_new HGW.out (fun x e => by omega)⟩
set_option maxRecDepth 100000 in
set_option maxHeartbeats 1000000 in
theorem rdec_no0 (p q r s : Nat) (w : World) (hf : Four (p, q, r, s)) (hk : kdAt p = .no) (hm : mayB (decI p q r s) = false) :
    Calls Tryd.prog 14 #[.agg #[.int .u8 p, .int .u8 q, .int .u8 r, .int .u8 s]] w fun e w' => e = .returned (.tuple #[.agg #[.int .u8 0, .int .u8 0, .int .u8 0, .int .u8 0, .int .i64 0], .int .i64 190]) ∧ Chg Non w w' := by
  have hd : decI p q r s = ⟨p, q, r, s, 0⟩ := by rw [dec_kd, hk]; rfl
  rw [hd] at hm
  obtain ⟨f1, f2, f3, f4⟩ := hf
  simp only at f1 f2 f3 f4
  have HF := Lib.hid (fun w => Form_ok p w)
  rw [hk] at HF
  rw [show (⟨(kdL .no).toArray⟩ : ByteArray) = ⟨#[]⟩ from rfl] at HF
  have HM := Lib.hid (fun w => rMay_ok p q r s 0 w ⟨f1, f2, f3, f4, by show -9223372036854775808 ≤ (0 : Int); omega, by show (0 : Int) ≤ 9223372036854775807; omega⟩)
  rw [hm] at HM
  clear hk hm hd
  go_enter Tryd.func14, Tryd.ntmps14
  go_wp2_with fail
  refine (HF.out _).mono ?_
  rintro e w1 ⟨rfl, rfl⟩
  go_wp2_with fail
  refine (HM.out _).mono ?_
  rintro e w2 ⟨rfl, hg⟩
  have HG : Hid (Chg Non w w2) := Lib.hid (((((Chg.refl Non w).alloc _).alloc _).alloc _).then_non hg)
  have HR := Lib.hid (blockN hg (al_3_1 _ _ _ _))
  obtain ⟨⟨xz, x0, x1, x2, x3, x4⟩, _⟩ := (Blk5.mk (blockN hg (al_3_2 _ _ _ _))).all
  clear hg
  go_wp2_with (first
    | (refine sel none (.store 23 (.tmp 2) (.tmp 43)) ?_
       refine wpList_store_rowA rfl 23 (.tmp 2) (.tmp 43) rfl (w.heap.size + 1) #[.int .u8 0, .int .u8 0, .int .u8 0, .int .u8 0, .int .i64 0] rfl rfl 23 _ HR.out info_rins rfl (by simp [Value.oneCell']) ?_
       intro W hgW hbW
       have HBW := Lib.hid hbW
       have HGW := Lib.hid hgW
       clear hbW hgW))
  exact bodyPost_ret (results_ct Tryd.results14 _ _ (w.heap.size + 1) 23 _ (0, 0) _ (.int .i64 190) rfl rfl HBW.out Tryd.underlying23 rfl info_rins) rfl ⟨rfl, HG.out.then_new HGW.out (fun x e => by omega)⟩
theorem rDec_v (p q r s : Nat) (op a b c : Nat) (n : Int) (w : World) (hf : Four (p, q, r, s)) (hd : decI p q r s = ⟨op, a, b, c, n⟩) (h : mayB ⟨op, a, b, c, n⟩ = true) :
    Calls Tryd.prog 14 #[.agg #[.int .u8 p, .int .u8 q, .int .u8 r, .int .u8 s]] w fun e w' => e = .returned (.tuple #[.agg #[.int .u8 op, .int .u8 a, .int .u8 b, .int .u8 c, .int .i64 n], .int .i64 0]) ∧ Chg Non w w' := by
  have hr : (Value.agg #[.int .u8 op, .int .u8 a, .int .u8 b, .int .u8 c, .int .i64 n]) = .agg (insC (decI p q r s)) := by rw [hd]; rfl
  rw [hr]
  rw [← hd] at h
  have hok : kdAt p ≠ .no := by
    have h1 := ((mayB_iff _).1 h).1
    rw [dec_op] at h1
    exact (kd_form p).2.1 (by simp [okB, h1.1, h1.2])
  cases hk : kdAt p with
  | no => exact absurd hk hok
  | none_ => exact rdec_none1 p q r s w hf hk h
  | an => exact rdec_an1 p q r s w hf hk h
  | abc => exact rdec_abc1 p q r s w hf hk h
  | abn => exact rdec_abn1 p q r s w hf hk h
  | n_ => exact rdec_n1 p q r s w hf hk h
  | ab => exact rdec_ab1 p q r s w hf hk h
theorem rDec_n (p q r s : Nat) (w : World) (hf : Four (p, q, r, s)) (h : mayB (decI p q r s) = false) :
    Calls Tryd.prog 14 #[.agg #[.int .u8 p, .int .u8 q, .int .u8 r, .int .u8 s]] w fun e w' => e = .returned (.tuple #[.agg #[.int .u8 0, .int .u8 0, .int .u8 0, .int .u8 0, .int .i64 0], .int .i64 190]) ∧ Chg Non w w' := by
  cases hk : kdAt p with
  | none_ => exact rdec_none0 p q r s w hf hk h
  | an => exact rdec_an0 p q r s w hf hk h
  | abc => exact rdec_abc0 p q r s w hf hk h
  | abn => exact rdec_abn0 p q r s w hf hk h
  | n_ => exact rdec_n0 p q r s w hf hk h
  | ab => exact rdec_ab0 p q r s w hf hk h
  | no => exact rdec_no0 p q r s w hf hk h

set_option maxRecDepth 100000 in
set_option maxHeartbeats 1000000 in
theorem is_ok (op a b c : Nat) (n : Int) (w : World) :
    Calls Tryd.prog 15 #[.agg #[.int .u8 op, .int .u8 a, .int .u8 b, .int .u8 c, .int .i64 n], .agg #[.int .u8 op, .int .u8 a, .int .u8 b, .int .u8 c, .int .i64 n]] w fun e w' => e = .returned (.bool true) ∧ Chg Non w w' := by
  have e1 : ((op : Int) == op) = true := by simp
  have e2 : ((a : Int) == a) = true := by simp
  have e3 : ((b : Int) == b) = true := by simp
  have e4 : ((c : Int) == c) = true := by simp
  have e5 : (n == n) = true := by simp
  go_enter Tryd.func15, Tryd.ntmps15
  go_wp2_with fail
  go_ret
  exact ⟨rfl, ((Chg.refl Non w).alloc _).alloc _⟩
end Go.Proofs.YtpcmnphohneddaaDoor
