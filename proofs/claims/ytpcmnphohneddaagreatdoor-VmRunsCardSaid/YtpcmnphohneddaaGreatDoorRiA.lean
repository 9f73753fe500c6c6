/- The document's answer of layer 19: Form, in, May. (Written by wip/gen_riA.py.) -/
import Derived.Test.YtpcmnphohneddaaGreatDoorIsa12
namespace Go.Proofs.YtpcmnphohneddaaGreatDoor
open Go.RowKit
set_option linter.unusedVariables false

/-- the kind of an op -/
inductive Kd where
  | none_ | an | abc | abn | n_ | ab | no
  deriving DecidableEq
def kdL : Kd → List UInt8
  | .none_ => [110, 111, 110, 101]
  | .an => [97, 110]
  | .abc => [97, 98, 99]
  | .abn => [97, 98, 110]
  | .n_ => [110]
  | .ab => [97, 98]
  | .no => []
def kdT : List Kd := [.no, .none_, .an, .an, .abc, .abc, .abc, .abc, .abc, .abc, .abc, .abc, .abc, .abn, .abn, .abn, .abn, .n_, .an, .an, .n_, .ab]
def kdAt (k : Nat) : Kd := kdT.getD k .no
theorem kdAt_big (k : Nat) (h : 22 ≤ k) : kdAt k = .no := by
  unfold kdAt
  rw [List.getD_eq_getElem?_getD, List.getElem?_eq_none (by simpa [kdT] using h)]
  rfl
/-- the form of a kind -/
def kdF : Kd → Bool × Bool × Bool × Nat
  | .none_ => (false, false, false, 0)
  | .an => (true, false, false, 65535)
  | .abc => (true, true, true, 0)
  | .abn => (true, true, false, 255)
  | .n_ => (false, false, false, 65535)
  | .ab => (true, true, false, 0)
  | .no => (false, false, false, 0)
theorem kd_form (k : Nat) : ((opAt k).a, (opAt k).b, (opAt k).c, (opAt k).n) = kdF (kdAt k) ∧ (okB k = true ↔ kdAt k ≠ .no) := by
  rcases Nat.lt_or_ge k 22 with h | h
  · have H : ∀ k, k < 22 → ((opAt k).a, (opAt k).b, (opAt k).c, (opAt k).n) = kdF (kdAt k) ∧ (okB k = true ↔ kdAt k ≠ .no) := by decide +kernel
    exact H k h
  · rw [opAt_big k h, kdAt_big k h]
    refine ⟨rfl, ?_⟩
    simp [okB]
    omega

set_option maxRecDepth 100000 in
theorem form_1 (w : World) : Calls Tryz.prog 53 #[.int .u8 1] w fun e w' => e = .returned (.string ⟨(kdL (kdAt 1)).toArray⟩) ∧ w = w' := by
  rw [show (⟨(kdL (kdAt 1)).toArray⟩ : ByteArray) = ⟨#[110, 111, 110, 101]⟩ from rfl]
  go_enter Tryz.func53, Tryz.ntmps53
  go_wp2
  go_ret
  exact ⟨rfl, rfl⟩
set_option maxRecDepth 100000 in
theorem form_2 (w : World) : Calls Tryz.prog 53 #[.int .u8 2] w fun e w' => e = .returned (.string ⟨(kdL (kdAt 2)).toArray⟩) ∧ w = w' := by
  rw [show (⟨(kdL (kdAt 2)).toArray⟩ : ByteArray) = ⟨#[97, 110]⟩ from rfl]
  go_enter Tryz.func53, Tryz.ntmps53
  go_wp2
  go_ret
  exact ⟨rfl, rfl⟩
set_option maxRecDepth 100000 in
theorem form_3 (w : World) : Calls Tryz.prog 53 #[.int .u8 3] w fun e w' => e = .returned (.string ⟨(kdL (kdAt 3)).toArray⟩) ∧ w = w' := by
  rw [show (⟨(kdL (kdAt 3)).toArray⟩ : ByteArray) = ⟨#[97, 110]⟩ from rfl]
  go_enter Tryz.func53, Tryz.ntmps53
  go_wp2
  go_ret
  exact ⟨rfl, rfl⟩
set_option maxRecDepth 100000 in
theorem form_4 (w : World) : Calls Tryz.prog 53 #[.int .u8 4] w fun e w' => e = .returned (.string ⟨(kdL (kdAt 4)).toArray⟩) ∧ w = w' := by
  rw [show (⟨(kdL (kdAt 4)).toArray⟩ : ByteArray) = ⟨#[97, 98, 99]⟩ from rfl]
  go_enter Tryz.func53, Tryz.ntmps53
  go_wp2
  go_ret
  exact ⟨rfl, rfl⟩
set_option maxRecDepth 100000 in
theorem form_5 (w : World) : Calls Tryz.prog 53 #[.int .u8 5] w fun e w' => e = .returned (.string ⟨(kdL (kdAt 5)).toArray⟩) ∧ w = w' := by
  rw [show (⟨(kdL (kdAt 5)).toArray⟩ : ByteArray) = ⟨#[97, 98, 99]⟩ from rfl]
  go_enter Tryz.func53, Tryz.ntmps53
  go_wp2
  go_ret
  exact ⟨rfl, rfl⟩
set_option maxRecDepth 100000 in
theorem form_6 (w : World) : Calls Tryz.prog 53 #[.int .u8 6] w fun e w' => e = .returned (.string ⟨(kdL (kdAt 6)).toArray⟩) ∧ w = w' := by
  rw [show (⟨(kdL (kdAt 6)).toArray⟩ : ByteArray) = ⟨#[97, 98, 99]⟩ from rfl]
  go_enter Tryz.func53, Tryz.ntmps53
  go_wp2
  go_ret
  exact ⟨rfl, rfl⟩
set_option maxRecDepth 100000 in
theorem form_7 (w : World) : Calls Tryz.prog 53 #[.int .u8 7] w fun e w' => e = .returned (.string ⟨(kdL (kdAt 7)).toArray⟩) ∧ w = w' := by
  rw [show (⟨(kdL (kdAt 7)).toArray⟩ : ByteArray) = ⟨#[97, 98, 99]⟩ from rfl]
  go_enter Tryz.func53, Tryz.ntmps53
  go_wp2
  go_ret
  exact ⟨rfl, rfl⟩
set_option maxRecDepth 100000 in
theorem form_8 (w : World) : Calls Tryz.prog 53 #[.int .u8 8] w fun e w' => e = .returned (.string ⟨(kdL (kdAt 8)).toArray⟩) ∧ w = w' := by
  rw [show (⟨(kdL (kdAt 8)).toArray⟩ : ByteArray) = ⟨#[97, 98, 99]⟩ from rfl]
  go_enter Tryz.func53, Tryz.ntmps53
  go_wp2
  go_ret
  exact ⟨rfl, rfl⟩
set_option maxRecDepth 100000 in
theorem form_9 (w : World) : Calls Tryz.prog 53 #[.int .u8 9] w fun e w' => e = .returned (.string ⟨(kdL (kdAt 9)).toArray⟩) ∧ w = w' := by
  rw [show (⟨(kdL (kdAt 9)).toArray⟩ : ByteArray) = ⟨#[97, 98, 99]⟩ from rfl]
  go_enter Tryz.func53, Tryz.ntmps53
  go_wp2
  go_ret
  exact ⟨rfl, rfl⟩
set_option maxRecDepth 100000 in
theorem form_10 (w : World) : Calls Tryz.prog 53 #[.int .u8 10] w fun e w' => e = .returned (.string ⟨(kdL (kdAt 10)).toArray⟩) ∧ w = w' := by
  rw [show (⟨(kdL (kdAt 10)).toArray⟩ : ByteArray) = ⟨#[97, 98, 99]⟩ from rfl]
  go_enter Tryz.func53, Tryz.ntmps53
  go_wp2
  go_ret
  exact ⟨rfl, rfl⟩
set_option maxRecDepth 100000 in
theorem form_11 (w : World) : Calls Tryz.prog 53 #[.int .u8 11] w fun e w' => e = .returned (.string ⟨(kdL (kdAt 11)).toArray⟩) ∧ w = w' := by
  rw [show (⟨(kdL (kdAt 11)).toArray⟩ : ByteArray) = ⟨#[97, 98, 99]⟩ from rfl]
  go_enter Tryz.func53, Tryz.ntmps53
  go_wp2
  go_ret
  exact ⟨rfl, rfl⟩
set_option maxRecDepth 100000 in
theorem form_12 (w : World) : Calls Tryz.prog 53 #[.int .u8 12] w fun e w' => e = .returned (.string ⟨(kdL (kdAt 12)).toArray⟩) ∧ w = w' := by
  rw [show (⟨(kdL (kdAt 12)).toArray⟩ : ByteArray) = ⟨#[97, 98, 99]⟩ from rfl]
  go_enter Tryz.func53, Tryz.ntmps53
  go_wp2
  go_ret
  exact ⟨rfl, rfl⟩
set_option maxRecDepth 100000 in
theorem form_13 (w : World) : Calls Tryz.prog 53 #[.int .u8 13] w fun e w' => e = .returned (.string ⟨(kdL (kdAt 13)).toArray⟩) ∧ w = w' := by
  rw [show (⟨(kdL (kdAt 13)).toArray⟩ : ByteArray) = ⟨#[97, 98, 110]⟩ from rfl]
  go_enter Tryz.func53, Tryz.ntmps53
  go_wp2
  go_ret
  exact ⟨rfl, rfl⟩
set_option maxRecDepth 100000 in
theorem form_14 (w : World) : Calls Tryz.prog 53 #[.int .u8 14] w fun e w' => e = .returned (.string ⟨(kdL (kdAt 14)).toArray⟩) ∧ w = w' := by
  rw [show (⟨(kdL (kdAt 14)).toArray⟩ : ByteArray) = ⟨#[97, 98, 110]⟩ from rfl]
  go_enter Tryz.func53, Tryz.ntmps53
  go_wp2
  go_ret
  exact ⟨rfl, rfl⟩
set_option maxRecDepth 100000 in
theorem form_15 (w : World) : Calls Tryz.prog 53 #[.int .u8 15] w fun e w' => e = .returned (.string ⟨(kdL (kdAt 15)).toArray⟩) ∧ w = w' := by
  rw [show (⟨(kdL (kdAt 15)).toArray⟩ : ByteArray) = ⟨#[97, 98, 110]⟩ from rfl]
  go_enter Tryz.func53, Tryz.ntmps53
  go_wp2
  go_ret
  exact ⟨rfl, rfl⟩
set_option maxRecDepth 100000 in
theorem form_16 (w : World) : Calls Tryz.prog 53 #[.int .u8 16] w fun e w' => e = .returned (.string ⟨(kdL (kdAt 16)).toArray⟩) ∧ w = w' := by
  rw [show (⟨(kdL (kdAt 16)).toArray⟩ : ByteArray) = ⟨#[97, 98, 110]⟩ from rfl]
  go_enter Tryz.func53, Tryz.ntmps53
  go_wp2
  go_ret
  exact ⟨rfl, rfl⟩
set_option maxRecDepth 100000 in
theorem form_17 (w : World) : Calls Tryz.prog 53 #[.int .u8 17] w fun e w' => e = .returned (.string ⟨(kdL (kdAt 17)).toArray⟩) ∧ w = w' := by
  rw [show (⟨(kdL (kdAt 17)).toArray⟩ : ByteArray) = ⟨#[110]⟩ from rfl]
  go_enter Tryz.func53, Tryz.ntmps53
  go_wp2
  go_ret
  exact ⟨rfl, rfl⟩
set_option maxRecDepth 100000 in
theorem form_18 (w : World) : Calls Tryz.prog 53 #[.int .u8 18] w fun e w' => e = .returned (.string ⟨(kdL (kdAt 18)).toArray⟩) ∧ w = w' := by
  rw [show (⟨(kdL (kdAt 18)).toArray⟩ : ByteArray) = ⟨#[97, 110]⟩ from rfl]
  go_enter Tryz.func53, Tryz.ntmps53
  go_wp2
  go_ret
  exact ⟨rfl, rfl⟩
set_option maxRecDepth 100000 in
theorem form_19 (w : World) : Calls Tryz.prog 53 #[.int .u8 19] w fun e w' => e = .returned (.string ⟨(kdL (kdAt 19)).toArray⟩) ∧ w = w' := by
  rw [show (⟨(kdL (kdAt 19)).toArray⟩ : ByteArray) = ⟨#[97, 110]⟩ from rfl]
  go_enter Tryz.func53, Tryz.ntmps53
  go_wp2
  go_ret
  exact ⟨rfl, rfl⟩
set_option maxRecDepth 100000 in
theorem form_20 (w : World) : Calls Tryz.prog 53 #[.int .u8 20] w fun e w' => e = .returned (.string ⟨(kdL (kdAt 20)).toArray⟩) ∧ w = w' := by
  rw [show (⟨(kdL (kdAt 20)).toArray⟩ : ByteArray) = ⟨#[110]⟩ from rfl]
  go_enter Tryz.func53, Tryz.ntmps53
  go_wp2
  go_ret
  exact ⟨rfl, rfl⟩
set_option maxRecDepth 100000 in
theorem form_21 (w : World) : Calls Tryz.prog 53 #[.int .u8 21] w fun e w' => e = .returned (.string ⟨(kdL (kdAt 21)).toArray⟩) ∧ w = w' := by
  rw [show (⟨(kdL (kdAt 21)).toArray⟩ : ByteArray) = ⟨#[97, 98]⟩ from rfl]
  go_enter Tryz.func53, Tryz.ntmps53
  go_wp2
  go_ret
  exact ⟨rfl, rfl⟩
set_option maxRecDepth 100000 in
theorem form_no (k : Nat) (w : World) (h : k = 0 ∨ 21 < k) : Calls Tryz.prog 53 #[.int .u8 k] w fun e w' => e = .returned (.string ⟨#[]⟩) ∧ w = w' := by
  have g1 : ((k : Int) == 1) = false := by simp; omega
  have g2 : ((k : Int) == 2) = false := by simp; omega
  have g3 : ((k : Int) == 3) = false := by simp; omega
  have g17 : ((k : Int) == 17) = false := by simp; omega
  have g18 : ((k : Int) == 18) = false := by simp; omega
  have g19 : ((k : Int) == 19) = false := by simp; omega
  have g20 : ((k : Int) == 20) = false := by simp; omega
  have g21 : ((k : Int) == 21) = false := by simp; omega
  rcases h with rfl | h
  · go_enter Tryz.func53, Tryz.ntmps53
    go_wp2
    go_ret
    exact ⟨rfl, rfl⟩
  · have a1 : decide ((k : Int) ≥ 4) = true := by simp; omega
    have a2 : decide ((k : Int) ≤ 12) = false := by simp; omega
    have a3 : decide ((k : Int) ≥ 13) = true := by simp; omega
    have a4 : decide ((k : Int) ≤ 16) = false := by simp; omega
    go_enter Tryz.func53, Tryz.ntmps53
    go_wp2
    go_ret
    exact ⟨rfl, rfl⟩
theorem Form_ok (k : Nat) (w : World) : Calls Tryz.prog 53 #[.int .u8 k] w fun e w' => e = .returned (.string ⟨(kdL (kdAt k)).toArray⟩) ∧ w = w' := by
  by_cases h : k = 0 ∨ 21 < k
  · have hk : kdAt k = .no := by
      rcases h with rfl | h
      · rfl
      · exact kdAt_big k (by omega)
    rw [hk]
    exact form_no k w h
  · have h' : k = 1 ∨ k = 2 ∨ k = 3 ∨ k = 4 ∨ k = 5 ∨ k = 6 ∨ k = 7 ∨ k = 8 ∨ k = 9 ∨ k = 10 ∨ k = 11 ∨ k = 12 ∨ k = 13 ∨ k = 14 ∨ k = 15 ∨ k = 16 ∨ k = 17 ∨ k = 18 ∨ k = 19 ∨ k = 20 ∨ k = 21 := by omega
    rcases h' with rfl | rfl | rfl | rfl | rfl | rfl | rfl | rfl | rfl | rfl | rfl | rfl | rfl | rfl | rfl | rfl | rfl | rfl | rfl | rfl | rfl
    · exact form_1 w
    · exact form_2 w
    · exact form_3 w
    · exact form_4 w
    · exact form_5 w
    · exact form_6 w
    · exact form_7 w
    · exact form_8 w
    · exact form_9 w
    · exact form_10 w
    · exact form_11 w
    · exact form_12 w
    · exact form_13 w
    · exact form_14 w
    · exact form_15 w
    · exact form_16 w
    · exact form_17 w
    · exact form_18 w
    · exact form_19 w
    · exact form_20 w
    · exact form_21 w

def inB (n m : Int) : Bool := decide (0 ≤ n) && decide (n ≤ m)
set_option maxRecDepth 100000 in
theorem in_ok (n m : Int) (w : World) : Calls Tryz.prog 63 #[.int .i64 n, .int .i64 m] w fun e w' => e = .returned (.bool (inB n m)) ∧ w = w' := by
  by_cases h : 0 ≤ n
  · have e : inB n m = decide (n ≤ m) := by simp [inB, h]
    rw [e]
    go_enter Tryz.func63, Tryz.ntmps63
    go_wp2
    go_ret
    exact ⟨rfl, rfl⟩
  · have e : inB n m = false := by simp [inB, h]
    have g : decide (n ≥ 0) = false := by simp; omega
    rw [e]
    go_enter Tryz.func63, Tryz.ntmps63
    go_wp2
    go_ret
    exact ⟨rfl, rfl⟩

theorem may_none (op a b c : Nat) (n : Int) (hk : kdAt op = .none_) : mayB ⟨op, a, b, c, n⟩ = (((a : Int) == 0) && (((b : Int) == 0) && (((c : Int) == 0) && (n == 0)))) := by
  obtain ⟨hf, ho⟩ := kd_form op
  rw [hk] at hf ho
  have ho' : okB op = true := ho.2 (by decide)
  simp only [kdF, Prod.mk.injEq] at hf
  obtain ⟨h1, h2, h3, h4⟩ := hf
  unfold mayB
  simp only [ho', h1, h2, h3, h4, regB]
  rw [Bool.eq_iff_iff]
  simp
  all_goals omega
set_option maxRecDepth 100000 in
set_option maxHeartbeats 1000000 in
theorem rmay_none0 (op a b c : Nat) (n : Int) (w : World) (ha : a < 256) (hb : b < 256) (hc : c < 256) (hk : kdAt op = .none_) (q0 : (((a : Int) == 0)) = false) :
    Calls Tryz.prog 54 #[.agg #[.int .u8 op, .int .u8 a, .int .u8 b, .int .u8 c, .int .i64 n]] w fun e w' => e = .returned (.bool false) ∧ Chg Non w w' := by
  have HF := Lib.hid (fun w => Form_ok op w)
  rw [hk] at HF
  rw [show (⟨(kdL .none_).toArray⟩ : ByteArray) = ⟨#[110, 111, 110, 101]⟩ from rfl] at HF
  clear hk
  go_enter Tryz.func54, Tryz.ntmps54
  go_wp2_with fail
  go_quiet (fail)
  go_wp2_with fail
  refine (HF.out _).mono ?_
  rintro e w1 ⟨rfl, rfl⟩
  go_wp2_with fail
  go_ret
  exact ⟨rfl, ((Chg.refl Non w).alloc _).drewN _⟩
set_option maxRecDepth 100000 in
set_option maxHeartbeats 1000000 in
theorem rmay_none1 (op a b c : Nat) (n : Int) (w : World) (ha : a < 256) (hb : b < 256) (hc : c < 256) (hk : kdAt op = .none_) (q0 : (((a : Int) == 0)) = true) (q1 : (((b : Int) == 0)) = false) :
    Calls Tryz.prog 54 #[.agg #[.int .u8 op, .int .u8 a, .int .u8 b, .int .u8 c, .int .i64 n]] w fun e w' => e = .returned (.bool false) ∧ Chg Non w w' := by
  have HF := Lib.hid (fun w => Form_ok op w)
  rw [hk] at HF
  rw [show (⟨(kdL .none_).toArray⟩ : ByteArray) = ⟨#[110, 111, 110, 101]⟩ from rfl] at HF
  clear hk
  go_enter Tryz.func54, Tryz.ntmps54
  go_wp2_with fail
  go_quiet (fail)
  go_wp2_with fail
  refine (HF.out _).mono ?_
  rintro e w1 ⟨rfl, rfl⟩
  go_wp2_with fail
  go_ret
  exact ⟨rfl, ((Chg.refl Non w).alloc _).drewN _⟩
set_option maxRecDepth 100000 in
set_option maxHeartbeats 1000000 in
theorem rmay_none2 (op a b c : Nat) (n : Int) (w : World) (ha : a < 256) (hb : b < 256) (hc : c < 256) (hk : kdAt op = .none_) (q0 : (((a : Int) == 0)) = true) (q1 : (((b : Int) == 0)) = true) (q2 : (((c : Int) == 0)) = false) :
    Calls Tryz.prog 54 #[.agg #[.int .u8 op, .int .u8 a, .int .u8 b, .int .u8 c, .int .i64 n]] w fun e w' => e = .returned (.bool false) ∧ Chg Non w w' := by
  have HF := Lib.hid (fun w => Form_ok op w)
  rw [hk] at HF
  rw [show (⟨(kdL .none_).toArray⟩ : ByteArray) = ⟨#[110, 111, 110, 101]⟩ from rfl] at HF
  clear hk
  go_enter Tryz.func54, Tryz.ntmps54
  go_wp2_with fail
  go_quiet (fail)
  go_wp2_with fail
  refine (HF.out _).mono ?_
  rintro e w1 ⟨rfl, rfl⟩
  go_wp2_with fail
  go_ret
  exact ⟨rfl, ((Chg.refl Non w).alloc _).drewN _⟩
set_option maxRecDepth 100000 in
set_option maxHeartbeats 1000000 in
theorem rmay_none3 (op a b c : Nat) (n : Int) (w : World) (ha : a < 256) (hb : b < 256) (hc : c < 256) (hk : kdAt op = .none_) (q0 : (((a : Int) == 0)) = true) (q1 : (((b : Int) == 0)) = true) (q2 : (((c : Int) == 0)) = true) (q3 : ((n == 0)) = false) :
    Calls Tryz.prog 54 #[.agg #[.int .u8 op, .int .u8 a, .int .u8 b, .int .u8 c, .int .i64 n]] w fun e w' => e = .returned (.bool false) ∧ Chg Non w w' := by
  have HF := Lib.hid (fun w => Form_ok op w)
  rw [hk] at HF
  rw [show (⟨(kdL .none_).toArray⟩ : ByteArray) = ⟨#[110, 111, 110, 101]⟩ from rfl] at HF
  clear hk
  go_enter Tryz.func54, Tryz.ntmps54
  go_wp2_with fail
  go_quiet (fail)
  go_wp2_with fail
  refine (HF.out _).mono ?_
  rintro e w1 ⟨rfl, rfl⟩
  go_wp2_with fail
  go_ret
  exact ⟨rfl, ((Chg.refl Non w).alloc _).drewN _⟩
set_option maxRecDepth 100000 in
set_option maxHeartbeats 1000000 in
theorem rmay_none4 (op a b c : Nat) (n : Int) (w : World) (ha : a < 256) (hb : b < 256) (hc : c < 256) (hk : kdAt op = .none_) (q0 : (((a : Int) == 0)) = true) (q1 : (((b : Int) == 0)) = true) (q2 : (((c : Int) == 0)) = true) (q3 : ((n == 0)) = true) :
    Calls Tryz.prog 54 #[.agg #[.int .u8 op, .int .u8 a, .int .u8 b, .int .u8 c, .int .i64 n]] w fun e w' => e = .returned (.bool true) ∧ Chg Non w w' := by
  have HF := Lib.hid (fun w => Form_ok op w)
  rw [hk] at HF
  rw [show (⟨(kdL .none_).toArray⟩ : ByteArray) = ⟨#[110, 111, 110, 101]⟩ from rfl] at HF
  clear hk
  go_enter Tryz.func54, Tryz.ntmps54
  go_wp2_with fail
  go_quiet (fail)
  go_wp2_with fail
  refine (HF.out _).mono ?_
  rintro e w1 ⟨rfl, rfl⟩
  go_wp2_with fail
  go_ret
  exact ⟨rfl, ((Chg.refl Non w).alloc _).drewN _⟩
theorem may_an (op a b c : Nat) (n : Int) (hk : kdAt op = .an) : mayB ⟨op, a, b, c, n⟩ = (inB (a : Int) 7 && (((b : Int) == 0) && (((c : Int) == 0) && inB n 65535))) := by
  obtain ⟨hf, ho⟩ := kd_form op
  rw [hk] at hf ho
  have ho' : okB op = true := ho.2 (by decide)
  simp only [kdF, Prod.mk.injEq] at hf
  obtain ⟨h1, h2, h3, h4⟩ := hf
  unfold mayB
  simp only [ho', h1, h2, h3, h4, regB, inB]
  rw [Bool.eq_iff_iff]
  simp
  all_goals omega
set_option maxRecDepth 100000 in
set_option maxHeartbeats 1000000 in
theorem rmay_an0 (op a b c : Nat) (n : Int) (w : World) (ha : a < 256) (hb : b < 256) (hc : c < 256) (hk : kdAt op = .an) (q0 : (inB (a : Int) 7) = false) :
    Calls Tryz.prog 54 #[.agg #[.int .u8 op, .int .u8 a, .int .u8 b, .int .u8 c, .int .i64 n]] w fun e w' => e = .returned (.bool false) ∧ Chg Non w w' := by
  have HF := Lib.hid (fun w => Form_ok op w)
  rw [hk] at HF
  rw [show (⟨(kdL .an).toArray⟩ : ByteArray) = ⟨#[97, 110]⟩ from rfl] at HF
  clear hk
  have I0 := Lib.hid (fun w => in_ok (a : Int) 7 w)
  rw [q0] at I0
  clear q0
  go_enter Tryz.func54, Tryz.ntmps54
  go_wp2_with fail
  go_quiet (fail)
  go_wp2_with fail
  refine (HF.out _).mono ?_
  rintro e w1 ⟨rfl, rfl⟩
  go_wp2_with fail
  refine (I0.out _).mono ?_
  rintro e w2 ⟨rfl, rfl⟩
  go_wp2_with fail
  go_ret
  exact ⟨rfl, ((Chg.refl Non w).alloc _).drewN _⟩
set_option maxRecDepth 100000 in
set_option maxHeartbeats 1000000 in
theorem rmay_an1 (op a b c : Nat) (n : Int) (w : World) (ha : a < 256) (hb : b < 256) (hc : c < 256) (hk : kdAt op = .an) (q0 : (inB (a : Int) 7) = true) (q1 : (((b : Int) == 0)) = false) :
    Calls Tryz.prog 54 #[.agg #[.int .u8 op, .int .u8 a, .int .u8 b, .int .u8 c, .int .i64 n]] w fun e w' => e = .returned (.bool false) ∧ Chg Non w w' := by
  have HF := Lib.hid (fun w => Form_ok op w)
  rw [hk] at HF
  rw [show (⟨(kdL .an).toArray⟩ : ByteArray) = ⟨#[97, 110]⟩ from rfl] at HF
  clear hk
  have I0 := Lib.hid (fun w => in_ok (a : Int) 7 w)
  rw [q0] at I0
  clear q0
  go_enter Tryz.func54, Tryz.ntmps54
  go_wp2_with fail
  go_quiet (fail)
  go_wp2_with fail
  refine (HF.out _).mono ?_
  rintro e w1 ⟨rfl, rfl⟩
  go_wp2_with fail
  refine (I0.out _).mono ?_
  rintro e w2 ⟨rfl, rfl⟩
  go_wp2_with fail
  go_ret
  exact ⟨rfl, ((Chg.refl Non w).alloc _).drewN _⟩
set_option maxRecDepth 100000 in
set_option maxHeartbeats 1000000 in
theorem rmay_an2 (op a b c : Nat) (n : Int) (w : World) (ha : a < 256) (hb : b < 256) (hc : c < 256) (hk : kdAt op = .an) (q0 : (inB (a : Int) 7) = true) (q1 : (((b : Int) == 0)) = true) (q2 : (((c : Int) == 0)) = false) :
    Calls Tryz.prog 54 #[.agg #[.int .u8 op, .int .u8 a, .int .u8 b, .int .u8 c, .int .i64 n]] w fun e w' => e = .returned (.bool false) ∧ Chg Non w w' := by
  have HF := Lib.hid (fun w => Form_ok op w)
  rw [hk] at HF
  rw [show (⟨(kdL .an).toArray⟩ : ByteArray) = ⟨#[97, 110]⟩ from rfl] at HF
  clear hk
  have I0 := Lib.hid (fun w => in_ok (a : Int) 7 w)
  rw [q0] at I0
  clear q0
  go_enter Tryz.func54, Tryz.ntmps54
  go_wp2_with fail
  go_quiet (fail)
  go_wp2_with fail
  refine (HF.out _).mono ?_
  rintro e w1 ⟨rfl, rfl⟩
  go_wp2_with fail
  refine (I0.out _).mono ?_
  rintro e w2 ⟨rfl, rfl⟩
  go_wp2_with fail
  go_ret
  exact ⟨rfl, ((Chg.refl Non w).alloc _).drewN _⟩
set_option maxRecDepth 100000 in
set_option maxHeartbeats 1000000 in
theorem rmay_an3 (op a b c : Nat) (n : Int) (w : World) (ha : a < 256) (hb : b < 256) (hc : c < 256) (hk : kdAt op = .an) (q0 : (inB (a : Int) 7) = true) (q1 : (((b : Int) == 0)) = true) (q2 : (((c : Int) == 0)) = true) (q3 : (inB n 65535) = false) :
    Calls Tryz.prog 54 #[.agg #[.int .u8 op, .int .u8 a, .int .u8 b, .int .u8 c, .int .i64 n]] w fun e w' => e = .returned (.bool false) ∧ Chg Non w w' := by
  have HF := Lib.hid (fun w => Form_ok op w)
  rw [hk] at HF
  rw [show (⟨(kdL .an).toArray⟩ : ByteArray) = ⟨#[97, 110]⟩ from rfl] at HF
  clear hk
  have I0 := Lib.hid (fun w => in_ok (a : Int) 7 w)
  rw [q0] at I0
  clear q0
  have I3 := Lib.hid (fun w => in_ok n 65535 w)
  rw [q3] at I3
  clear q3
  go_enter Tryz.func54, Tryz.ntmps54
  go_wp2_with fail
  go_quiet (fail)
  go_wp2_with fail
  refine (HF.out _).mono ?_
  rintro e w1 ⟨rfl, rfl⟩
  go_wp2_with fail
  refine (I0.out _).mono ?_
  rintro e w2 ⟨rfl, rfl⟩
  go_wp2_with fail
  refine (I3.out _).mono ?_
  rintro e w2 ⟨rfl, rfl⟩
  go_wp2_with fail
  go_ret
  exact ⟨rfl, ((Chg.refl Non w).alloc _).drewN _⟩
set_option maxRecDepth 100000 in
set_option maxHeartbeats 1000000 in
theorem rmay_an4 (op a b c : Nat) (n : Int) (w : World) (ha : a < 256) (hb : b < 256) (hc : c < 256) (hk : kdAt op = .an) (q0 : (inB (a : Int) 7) = true) (q1 : (((b : Int) == 0)) = true) (q2 : (((c : Int) == 0)) = true) (q3 : (inB n 65535) = true) :
    Calls Tryz.prog 54 #[.agg #[.int .u8 op, .int .u8 a, .int .u8 b, .int .u8 c, .int .i64 n]] w fun e w' => e = .returned (.bool true) ∧ Chg Non w w' := by
  have HF := Lib.hid (fun w => Form_ok op w)
  rw [hk] at HF
  rw [show (⟨(kdL .an).toArray⟩ : ByteArray) = ⟨#[97, 110]⟩ from rfl] at HF
  clear hk
  have I0 := Lib.hid (fun w => in_ok (a : Int) 7 w)
  rw [q0] at I0
  clear q0
  have I3 := Lib.hid (fun w => in_ok n 65535 w)
  rw [q3] at I3
  clear q3
  go_enter Tryz.func54, Tryz.ntmps54
  go_wp2_with fail
  go_quiet (fail)
  go_wp2_with fail
  refine (HF.out _).mono ?_
  rintro e w1 ⟨rfl, rfl⟩
  go_wp2_with fail
  refine (I0.out _).mono ?_
  rintro e w2 ⟨rfl, rfl⟩
  go_wp2_with fail
  refine (I3.out _).mono ?_
  rintro e w2 ⟨rfl, rfl⟩
  go_wp2_with fail
  go_ret
  exact ⟨rfl, ((Chg.refl Non w).alloc _).drewN _⟩
theorem may_ab (op a b c : Nat) (n : Int) (hk : kdAt op = .ab) : mayB ⟨op, a, b, c, n⟩ = (inB (a : Int) 7 && (inB (b : Int) 7 && (((c : Int) == 0) && (n == 0)))) := by
  obtain ⟨hf, ho⟩ := kd_form op
  rw [hk] at hf ho
  have ho' : okB op = true := ho.2 (by decide)
  simp only [kdF, Prod.mk.injEq] at hf
  obtain ⟨h1, h2, h3, h4⟩ := hf
  unfold mayB
  simp only [ho', h1, h2, h3, h4, regB, inB]
  rw [Bool.eq_iff_iff]
  simp
  all_goals omega
set_option maxRecDepth 100000 in
set_option maxHeartbeats 1000000 in
theorem rmay_ab0 (op a b c : Nat) (n : Int) (w : World) (ha : a < 256) (hb : b < 256) (hc : c < 256) (hk : kdAt op = .ab) (q0 : (inB (a : Int) 7) = false) :
    Calls Tryz.prog 54 #[.agg #[.int .u8 op, .int .u8 a, .int .u8 b, .int .u8 c, .int .i64 n]] w fun e w' => e = .returned (.bool false) ∧ Chg Non w w' := by
  have HF := Lib.hid (fun w => Form_ok op w)
  rw [hk] at HF
  rw [show (⟨(kdL .ab).toArray⟩ : ByteArray) = ⟨#[97, 98]⟩ from rfl] at HF
  clear hk
  have I0 := Lib.hid (fun w => in_ok (a : Int) 7 w)
  rw [q0] at I0
  clear q0
  go_enter Tryz.func54, Tryz.ntmps54
  go_wp2_with fail
  go_quiet (fail)
  go_wp2_with fail
  refine (HF.out _).mono ?_
  rintro e w1 ⟨rfl, rfl⟩
  go_wp2_with fail
  refine (I0.out _).mono ?_
  rintro e w2 ⟨rfl, rfl⟩
  go_wp2_with fail
  go_ret
  exact ⟨rfl, ((Chg.refl Non w).alloc _).drewN _⟩
set_option maxRecDepth 100000 in
set_option maxHeartbeats 1000000 in
theorem rmay_ab1 (op a b c : Nat) (n : Int) (w : World) (ha : a < 256) (hb : b < 256) (hc : c < 256) (hk : kdAt op = .ab) (q0 : (inB (a : Int) 7) = true) (q1 : (inB (b : Int) 7) = false) :
    Calls Tryz.prog 54 #[.agg #[.int .u8 op, .int .u8 a, .int .u8 b, .int .u8 c, .int .i64 n]] w fun e w' => e = .returned (.bool false) ∧ Chg Non w w' := by
  have HF := Lib.hid (fun w => Form_ok op w)
  rw [hk] at HF
  rw [show (⟨(kdL .ab).toArray⟩ : ByteArray) = ⟨#[97, 98]⟩ from rfl] at HF
  clear hk
  have I0 := Lib.hid (fun w => in_ok (a : Int) 7 w)
  rw [q0] at I0
  clear q0
  have I1 := Lib.hid (fun w => in_ok (b : Int) 7 w)
  rw [q1] at I1
  clear q1
  go_enter Tryz.func54, Tryz.ntmps54
  go_wp2_with fail
  go_quiet (fail)
  go_wp2_with fail
  refine (HF.out _).mono ?_
  rintro e w1 ⟨rfl, rfl⟩
  go_wp2_with fail
  refine (I0.out _).mono ?_
  rintro e w2 ⟨rfl, rfl⟩
  go_wp2_with fail
  refine (I1.out _).mono ?_
  rintro e w2 ⟨rfl, rfl⟩
  go_wp2_with fail
  go_ret
  exact ⟨rfl, ((Chg.refl Non w).alloc _).drewN _⟩
set_option maxRecDepth 100000 in
set_option maxHeartbeats 1000000 in
theorem rmay_ab2 (op a b c : Nat) (n : Int) (w : World) (ha : a < 256) (hb : b < 256) (hc : c < 256) (hk : kdAt op = .ab) (q0 : (inB (a : Int) 7) = true) (q1 : (inB (b : Int) 7) = true) (q2 : (((c : Int) == 0)) = false) :
    Calls Tryz.prog 54 #[.agg #[.int .u8 op, .int .u8 a, .int .u8 b, .int .u8 c, .int .i64 n]] w fun e w' => e = .returned (.bool false) ∧ Chg Non w w' := by
  have HF := Lib.hid (fun w => Form_ok op w)
  rw [hk] at HF
  rw [show (⟨(kdL .ab).toArray⟩ : ByteArray) = ⟨#[97, 98]⟩ from rfl] at HF
  clear hk
  have I0 := Lib.hid (fun w => in_ok (a : Int) 7 w)
  rw [q0] at I0
  clear q0
  have I1 := Lib.hid (fun w => in_ok (b : Int) 7 w)
  rw [q1] at I1
  clear q1
  go_enter Tryz.func54, Tryz.ntmps54
  go_wp2_with fail
  go_quiet (fail)
  go_wp2_with fail
  refine (HF.out _).mono ?_
  rintro e w1 ⟨rfl, rfl⟩
  go_wp2_with fail
  refine (I0.out _).mono ?_
  rintro e w2 ⟨rfl, rfl⟩
  go_wp2_with fail
  refine (I1.out _).mono ?_
  rintro e w2 ⟨rfl, rfl⟩
  go_wp2_with fail
  go_ret
  exact ⟨rfl, ((Chg.refl Non w).alloc _).drewN _⟩
set_option maxRecDepth 100000 in
set_option maxHeartbeats 1000000 in
theorem rmay_ab3 (op a b c : Nat) (n : Int) (w : World) (ha : a < 256) (hb : b < 256) (hc : c < 256) (hk : kdAt op = .ab) (q0 : (inB (a : Int) 7) = true) (q1 : (inB (b : Int) 7) = true) (q2 : (((c : Int) == 0)) = true) (q3 : ((n == 0)) = false) :
    Calls Tryz.prog 54 #[.agg #[.int .u8 op, .int .u8 a, .int .u8 b, .int .u8 c, .int .i64 n]] w fun e w' => e = .returned (.bool false) ∧ Chg Non w w' := by
  have HF := Lib.hid (fun w => Form_ok op w)
  rw [hk] at HF
  rw [show (⟨(kdL .ab).toArray⟩ : ByteArray) = ⟨#[97, 98]⟩ from rfl] at HF
  clear hk
  have I0 := Lib.hid (fun w => in_ok (a : Int) 7 w)
  rw [q0] at I0
  clear q0
  have I1 := Lib.hid (fun w => in_ok (b : Int) 7 w)
  rw [q1] at I1
  clear q1
  go_enter Tryz.func54, Tryz.ntmps54
  go_wp2_with fail
  go_quiet (fail)
  go_wp2_with fail
  refine (HF.out _).mono ?_
  rintro e w1 ⟨rfl, rfl⟩
  go_wp2_with fail
  refine (I0.out _).mono ?_
  rintro e w2 ⟨rfl, rfl⟩
  go_wp2_with fail
  refine (I1.out _).mono ?_
  rintro e w2 ⟨rfl, rfl⟩
  go_wp2_with fail
  go_ret
  exact ⟨rfl, ((Chg.refl Non w).alloc _).drewN _⟩
set_option maxRecDepth 100000 in
set_option maxHeartbeats 1000000 in
theorem rmay_ab4 (op a b c : Nat) (n : Int) (w : World) (ha : a < 256) (hb : b < 256) (hc : c < 256) (hk : kdAt op = .ab) (q0 : (inB (a : Int) 7) = true) (q1 : (inB (b : Int) 7) = true) (q2 : (((c : Int) == 0)) = true) (q3 : ((n == 0)) = true) :
    Calls Tryz.prog 54 #[.agg #[.int .u8 op, .int .u8 a, .int .u8 b, .int .u8 c, .int .i64 n]] w fun e w' => e = .returned (.bool true) ∧ Chg Non w w' := by
  have HF := Lib.hid (fun w => Form_ok op w)
  rw [hk] at HF
  rw [show (⟨(kdL .ab).toArray⟩ : ByteArray) = ⟨#[97, 98]⟩ from rfl] at HF
  clear hk
  have I0 := Lib.hid (fun w => in_ok (a : Int) 7 w)
  rw [q0] at I0
  clear q0
  have I1 := Lib.hid (fun w => in_ok (b : Int) 7 w)
  rw [q1] at I1
  clear q1
  go_enter Tryz.func54, Tryz.ntmps54
  go_wp2_with fail
  go_quiet (fail)
  go_wp2_with fail
  refine (HF.out _).mono ?_
  rintro e w1 ⟨rfl, rfl⟩
  go_wp2_with fail
  refine (I0.out _).mono ?_
  rintro e w2 ⟨rfl, rfl⟩
  go_wp2_with fail
  refine (I1.out _).mono ?_
  rintro e w2 ⟨rfl, rfl⟩
  go_wp2_with fail
  go_ret
  exact ⟨rfl, ((Chg.refl Non w).alloc _).drewN _⟩
theorem may_abc (op a b c : Nat) (n : Int) (hk : kdAt op = .abc) : mayB ⟨op, a, b, c, n⟩ = (inB (a : Int) 7 && (inB (b : Int) 7 && (inB (c : Int) 7 && (n == 0)))) := by
  obtain ⟨hf, ho⟩ := kd_form op
  rw [hk] at hf ho
  have ho' : okB op = true := ho.2 (by decide)
  simp only [kdF, Prod.mk.injEq] at hf
  obtain ⟨h1, h2, h3, h4⟩ := hf
  unfold mayB
  simp only [ho', h1, h2, h3, h4, regB, inB]
  rw [Bool.eq_iff_iff]
  simp
  all_goals omega
set_option maxRecDepth 100000 in
set_option maxHeartbeats 1000000 in
theorem rmay_abc0 (op a b c : Nat) (n : Int) (w : World) (ha : a < 256) (hb : b < 256) (hc : c < 256) (hk : kdAt op = .abc) (q0 : (inB (a : Int) 7) = false) :
    Calls Tryz.prog 54 #[.agg #[.int .u8 op, .int .u8 a, .int .u8 b, .int .u8 c, .int .i64 n]] w fun e w' => e = .returned (.bool false) ∧ Chg Non w w' := by
  have HF := Lib.hid (fun w => Form_ok op w)
  rw [hk] at HF
  rw [show (⟨(kdL .abc).toArray⟩ : ByteArray) = ⟨#[97, 98, 99]⟩ from rfl] at HF
  clear hk
  have I0 := Lib.hid (fun w => in_ok (a : Int) 7 w)
  rw [q0] at I0
  clear q0
  go_enter Tryz.func54, Tryz.ntmps54
  go_wp2_with fail
  go_quiet (fail)
  go_wp2_with fail
  refine (HF.out _).mono ?_
  rintro e w1 ⟨rfl, rfl⟩
  go_wp2_with fail
  refine (I0.out _).mono ?_
  rintro e w2 ⟨rfl, rfl⟩
  go_wp2_with fail
  go_ret
  exact ⟨rfl, ((Chg.refl Non w).alloc _).drewN _⟩
set_option maxRecDepth 100000 in
set_option maxHeartbeats 1000000 in
theorem rmay_abc1 (op a b c : Nat) (n : Int) (w : World) (ha : a < 256) (hb : b < 256) (hc : c < 256) (hk : kdAt op = .abc) (q0 : (inB (a : Int) 7) = true) (q1 : (inB (b : Int) 7) = false) :
    Calls Tryz.prog 54 #[.agg #[.int .u8 op, .int .u8 a, .int .u8 b, .int .u8 c, .int .i64 n]] w fun e w' => e = .returned (.bool false) ∧ Chg Non w w' := by
  have HF := Lib.hid (fun w => Form_ok op w)
  rw [hk] at HF
  rw [show (⟨(kdL .abc).toArray⟩ : ByteArray) = ⟨#[97, 98, 99]⟩ from rfl] at HF
  clear hk
  have I0 := Lib.hid (fun w => in_ok (a : Int) 7 w)
  rw [q0] at I0
  clear q0
  have I1 := Lib.hid (fun w => in_ok (b : Int) 7 w)
  rw [q1] at I1
  clear q1
  go_enter Tryz.func54, Tryz.ntmps54
  go_wp2_with fail
  go_quiet (fail)
  go_wp2_with fail
  refine (HF.out _).mono ?_
  rintro e w1 ⟨rfl, rfl⟩
  go_wp2_with fail
  refine (I0.out _).mono ?_
  rintro e w2 ⟨rfl, rfl⟩
  go_wp2_with fail
  refine (I1.out _).mono ?_
  rintro e w2 ⟨rfl, rfl⟩
  go_wp2_with fail
  go_ret
  exact ⟨rfl, ((Chg.refl Non w).alloc _).drewN _⟩
set_option maxRecDepth 100000 in
set_option maxHeartbeats 1000000 in
theorem rmay_abc2 (op a b c : Nat) (n : Int) (w : World) (ha : a < 256) (hb : b < 256) (hc : c < 256) (hk : kdAt op = .abc) (q0 : (inB (a : Int) 7) = true) (q1 : (inB (b : Int) 7) = true) (q2 : (inB (c : Int) 7) = false) :
    Calls Tryz.prog 54 #[.agg #[.int .u8 op, .int .u8 a, .int .u8 b, .int .u8 c, .int .i64 n]] w fun e w' => e = .returned (.bool false) ∧ Chg Non w w' := by
  have HF := Lib.hid (fun w => Form_ok op w)
  rw [hk] at HF
  rw [show (⟨(kdL .abc).toArray⟩ : ByteArray) = ⟨#[97, 98, 99]⟩ from rfl] at HF
  clear hk
  have I0 := Lib.hid (fun w => in_ok (a : Int) 7 w)
  rw [q0] at I0
  clear q0
  have I1 := Lib.hid (fun w => in_ok (b : Int) 7 w)
  rw [q1] at I1
  clear q1
  have I2 := Lib.hid (fun w => in_ok (c : Int) 7 w)
  rw [q2] at I2
  clear q2
  go_enter Tryz.func54, Tryz.ntmps54
  go_wp2_with fail
  go_quiet (fail)
  go_wp2_with fail
  refine (HF.out _).mono ?_
  rintro e w1 ⟨rfl, rfl⟩
  go_wp2_with fail
  refine (I0.out _).mono ?_
  rintro e w2 ⟨rfl, rfl⟩
  go_wp2_with fail
  refine (I1.out _).mono ?_
  rintro e w2 ⟨rfl, rfl⟩
  go_wp2_with fail
  refine (I2.out _).mono ?_
  rintro e w2 ⟨rfl, rfl⟩
  go_wp2_with fail
  go_ret
  exact ⟨rfl, ((Chg.refl Non w).alloc _).drewN _⟩
set_option maxRecDepth 100000 in
set_option maxHeartbeats 1000000 in
theorem rmay_abc3 (op a b c : Nat) (n : Int) (w : World) (ha : a < 256) (hb : b < 256) (hc : c < 256) (hk : kdAt op = .abc) (q0 : (inB (a : Int) 7) = true) (q1 : (inB (b : Int) 7) = true) (q2 : (inB (c : Int) 7) = true) (q3 : ((n == 0)) = false) :
    Calls Tryz.prog 54 #[.agg #[.int .u8 op, .int .u8 a, .int .u8 b, .int .u8 c, .int .i64 n]] w fun e w' => e = .returned (.bool false) ∧ Chg Non w w' := by
  have HF := Lib.hid (fun w => Form_ok op w)
  rw [hk] at HF
  rw [show (⟨(kdL .abc).toArray⟩ : ByteArray) = ⟨#[97, 98, 99]⟩ from rfl] at HF
  clear hk
  have I0 := Lib.hid (fun w => in_ok (a : Int) 7 w)
  rw [q0] at I0
  clear q0
  have I1 := Lib.hid (fun w => in_ok (b : Int) 7 w)
  rw [q1] at I1
  clear q1
  have I2 := Lib.hid (fun w => in_ok (c : Int) 7 w)
  rw [q2] at I2
  clear q2
  go_enter Tryz.func54, Tryz.ntmps54
  go_wp2_with fail
  go_quiet (fail)
  go_wp2_with fail
  refine (HF.out _).mono ?_
  rintro e w1 ⟨rfl, rfl⟩
  go_wp2_with fail
  refine (I0.out _).mono ?_
  rintro e w2 ⟨rfl, rfl⟩
  go_wp2_with fail
  refine (I1.out _).mono ?_
  rintro e w2 ⟨rfl, rfl⟩
  go_wp2_with fail
  refine (I2.out _).mono ?_
  rintro e w2 ⟨rfl, rfl⟩
  go_wp2_with fail
  go_ret
  exact ⟨rfl, ((Chg.refl Non w).alloc _).drewN _⟩
set_option maxRecDepth 100000 in
set_option maxHeartbeats 1000000 in
theorem rmay_abc4 (op a b c : Nat) (n : Int) (w : World) (ha : a < 256) (hb : b < 256) (hc : c < 256) (hk : kdAt op = .abc) (q0 : (inB (a : Int) 7) = true) (q1 : (inB (b : Int) 7) = true) (q2 : (inB (c : Int) 7) = true) (q3 : ((n == 0)) = true) :
    Calls Tryz.prog 54 #[.agg #[.int .u8 op, .int .u8 a, .int .u8 b, .int .u8 c, .int .i64 n]] w fun e w' => e = .returned (.bool true) ∧ Chg Non w w' := by
  have HF := Lib.hid (fun w => Form_ok op w)
  rw [hk] at HF
  rw [show (⟨(kdL .abc).toArray⟩ : ByteArray) = ⟨#[97, 98, 99]⟩ from rfl] at HF
  clear hk
  have I0 := Lib.hid (fun w => in_ok (a : Int) 7 w)
  rw [q0] at I0
  clear q0
  have I1 := Lib.hid (fun w => in_ok (b : Int) 7 w)
  rw [q1] at I1
  clear q1
  have I2 := Lib.hid (fun w => in_ok (c : Int) 7 w)
  rw [q2] at I2
  clear q2
  go_enter Tryz.func54, Tryz.ntmps54
  go_wp2_with fail
  go_quiet (fail)
  go_wp2_with fail
  refine (HF.out _).mono ?_
  rintro e w1 ⟨rfl, rfl⟩
  go_wp2_with fail
  refine (I0.out _).mono ?_
  rintro e w2 ⟨rfl, rfl⟩
  go_wp2_with fail
  refine (I1.out _).mono ?_
  rintro e w2 ⟨rfl, rfl⟩
  go_wp2_with fail
  refine (I2.out _).mono ?_
  rintro e w2 ⟨rfl, rfl⟩
  go_wp2_with fail
  go_ret
  exact ⟨rfl, ((Chg.refl Non w).alloc _).drewN _⟩
theorem may_abn (op a b c : Nat) (n : Int) (hk : kdAt op = .abn) : mayB ⟨op, a, b, c, n⟩ = (inB (a : Int) 7 && (inB (b : Int) 7 && (((c : Int) == 0) && inB n 255))) := by
  obtain ⟨hf, ho⟩ := kd_form op
  rw [hk] at hf ho
  have ho' : okB op = true := ho.2 (by decide)
  simp only [kdF, Prod.mk.injEq] at hf
  obtain ⟨h1, h2, h3, h4⟩ := hf
  unfold mayB
  simp only [ho', h1, h2, h3, h4, regB, inB]
  rw [Bool.eq_iff_iff]
  simp
  all_goals omega
set_option maxRecDepth 100000 in
set_option maxHeartbeats 1000000 in
theorem rmay_abn0 (op a b c : Nat) (n : Int) (w : World) (ha : a < 256) (hb : b < 256) (hc : c < 256) (hk : kdAt op = .abn) (q0 : (inB (a : Int) 7) = false) :
    Calls Tryz.prog 54 #[.agg #[.int .u8 op, .int .u8 a, .int .u8 b, .int .u8 c, .int .i64 n]] w fun e w' => e = .returned (.bool false) ∧ Chg Non w w' := by
  have HF := Lib.hid (fun w => Form_ok op w)
  rw [hk] at HF
  rw [show (⟨(kdL .abn).toArray⟩ : ByteArray) = ⟨#[97, 98, 110]⟩ from rfl] at HF
  clear hk
  have I0 := Lib.hid (fun w => in_ok (a : Int) 7 w)
  rw [q0] at I0
  clear q0
  go_enter Tryz.func54, Tryz.ntmps54
  go_wp2_with fail
  go_quiet (fail)
  go_wp2_with fail
  refine (HF.out _).mono ?_
  rintro e w1 ⟨rfl, rfl⟩
  go_wp2_with fail
  refine (I0.out _).mono ?_
  rintro e w2 ⟨rfl, rfl⟩
  go_wp2_with fail
  go_ret
  exact ⟨rfl, ((Chg.refl Non w).alloc _).drewN _⟩
set_option maxRecDepth 100000 in
set_option maxHeartbeats 1000000 in
theorem rmay_abn1 (op a b c : Nat) (n : Int) (w : World) (ha : a < 256) (hb : b < 256) (hc : c < 256) (hk : kdAt op = .abn) (q0 : (inB (a : Int) 7) = true) (q1 : (inB (b : Int) 7) = false) :
    Calls Tryz.prog 54 #[.agg #[.int .u8 op, .int .u8 a, .int .u8 b, .int .u8 c, .int .i64 n]] w fun e w' => e = .returned (.bool false) ∧ Chg Non w w' := by
  have HF := Lib.hid (fun w => Form_ok op w)
  rw [hk] at HF
  rw [show (⟨(kdL .abn).toArray⟩ : ByteArray) = ⟨#[97, 98, 110]⟩ from rfl] at HF
  clear hk
  have I0 := Lib.hid (fun w => in_ok (a : Int) 7 w)
  rw [q0] at I0
  clear q0
  have I1 := Lib.hid (fun w => in_ok (b : Int) 7 w)
  rw [q1] at I1
  clear q1
  go_enter Tryz.func54, Tryz.ntmps54
  go_wp2_with fail
  go_quiet (fail)
  go_wp2_with fail
  refine (HF.out _).mono ?_
  rintro e w1 ⟨rfl, rfl⟩
  go_wp2_with fail
  refine (I0.out _).mono ?_
  rintro e w2 ⟨rfl, rfl⟩
  go_wp2_with fail
  refine (I1.out _).mono ?_
  rintro e w2 ⟨rfl, rfl⟩
  go_wp2_with fail
  go_ret
  exact ⟨rfl, ((Chg.refl Non w).alloc _).drewN _⟩
set_option maxRecDepth 100000 in
set_option maxHeartbeats 1000000 in
theorem rmay_abn2 (op a b c : Nat) (n : Int) (w : World) (ha : a < 256) (hb : b < 256) (hc : c < 256) (hk : kdAt op = .abn) (q0 : (inB (a : Int) 7) = true) (q1 : (inB (b : Int) 7) = true) (q2 : (((c : Int) == 0)) = false) :
    Calls Tryz.prog 54 #[.agg #[.int .u8 op, .int .u8 a, .int .u8 b, .int .u8 c, .int .i64 n]] w fun e w' => e = .returned (.bool false) ∧ Chg Non w w' := by
  have HF := Lib.hid (fun w => Form_ok op w)
  rw [hk] at HF
  rw [show (⟨(kdL .abn).toArray⟩ : ByteArray) = ⟨#[97, 98, 110]⟩ from rfl] at HF
  clear hk
  have I0 := Lib.hid (fun w => in_ok (a : Int) 7 w)
  rw [q0] at I0
  clear q0
  have I1 := Lib.hid (fun w => in_ok (b : Int) 7 w)
  rw [q1] at I1
  clear q1
  go_enter Tryz.func54, Tryz.ntmps54
  go_wp2_with fail
  go_quiet (fail)
  go_wp2_with fail
  refine (HF.out _).mono ?_
  rintro e w1 ⟨rfl, rfl⟩
  go_wp2_with fail
  refine (I0.out _).mono ?_
  rintro e w2 ⟨rfl, rfl⟩
  go_wp2_with fail
  refine (I1.out _).mono ?_
  rintro e w2 ⟨rfl, rfl⟩
  go_wp2_with fail
  go_ret
  exact ⟨rfl, ((Chg.refl Non w).alloc _).drewN _⟩
set_option maxRecDepth 100000 in
set_option maxHeartbeats 1000000 in
theorem rmay_abn3 (op a b c : Nat) (n : Int) (w : World) (ha : a < 256) (hb : b < 256) (hc : c < 256) (hk : kdAt op = .abn) (q0 : (inB (a : Int) 7) = true) (q1 : (inB (b : Int) 7) = true) (q2 : (((c : Int) == 0)) = true) (q3 : (inB n 255) = false) :
    Calls Tryz.prog 54 #[.agg #[.int .u8 op, .int .u8 a, .int .u8 b, .int .u8 c, .int .i64 n]] w fun e w' => e = .returned (.bool false) ∧ Chg Non w w' := by
  have HF := Lib.hid (fun w => Form_ok op w)
  rw [hk] at HF
  rw [show (⟨(kdL .abn).toArray⟩ : ByteArray) = ⟨#[97, 98, 110]⟩ from rfl] at HF
  clear hk
  have I0 := Lib.hid (fun w => in_ok (a : Int) 7 w)
  rw [q0] at I0
  clear q0
  have I1 := Lib.hid (fun w => in_ok (b : Int) 7 w)
  rw [q1] at I1
  clear q1
  have I3 := Lib.hid (fun w => in_ok n 255 w)
  rw [q3] at I3
  clear q3
  go_enter Tryz.func54, Tryz.ntmps54
  go_wp2_with fail
  go_quiet (fail)
  go_wp2_with fail
  refine (HF.out _).mono ?_
  rintro e w1 ⟨rfl, rfl⟩
  go_wp2_with fail
  refine (I0.out _).mono ?_
  rintro e w2 ⟨rfl, rfl⟩
  go_wp2_with fail
  refine (I1.out _).mono ?_
  rintro e w2 ⟨rfl, rfl⟩
  go_wp2_with fail
  refine (I3.out _).mono ?_
  rintro e w2 ⟨rfl, rfl⟩
  go_wp2_with fail
  go_ret
  exact ⟨rfl, ((Chg.refl Non w).alloc _).drewN _⟩
set_option maxRecDepth 100000 in
set_option maxHeartbeats 1000000 in
theorem rmay_abn4 (op a b c : Nat) (n : Int) (w : World) (ha : a < 256) (hb : b < 256) (hc : c < 256) (hk : kdAt op = .abn) (q0 : (inB (a : Int) 7) = true) (q1 : (inB (b : Int) 7) = true) (q2 : (((c : Int) == 0)) = true) (q3 : (inB n 255) = true) :
    Calls Tryz.prog 54 #[.agg #[.int .u8 op, .int .u8 a, .int .u8 b, .int .u8 c, .int .i64 n]] w fun e w' => e = .returned (.bool true) ∧ Chg Non w w' := by
  have HF := Lib.hid (fun w => Form_ok op w)
  rw [hk] at HF
  rw [show (⟨(kdL .abn).toArray⟩ : ByteArray) = ⟨#[97, 98, 110]⟩ from rfl] at HF
  clear hk
  have I0 := Lib.hid (fun w => in_ok (a : Int) 7 w)
  rw [q0] at I0
  clear q0
  have I1 := Lib.hid (fun w => in_ok (b : Int) 7 w)
  rw [q1] at I1
  clear q1
  have I3 := Lib.hid (fun w => in_ok n 255 w)
  rw [q3] at I3
  clear q3
  go_enter Tryz.func54, Tryz.ntmps54
  go_wp2_with fail
  go_quiet (fail)
  go_wp2_with fail
  refine (HF.out _).mono ?_
  rintro e w1 ⟨rfl, rfl⟩
  go_wp2_with fail
  refine (I0.out _).mono ?_
  rintro e w2 ⟨rfl, rfl⟩
  go_wp2_with fail
  refine (I1.out _).mono ?_
  rintro e w2 ⟨rfl, rfl⟩
  go_wp2_with fail
  refine (I3.out _).mono ?_
  rintro e w2 ⟨rfl, rfl⟩
  go_wp2_with fail
  go_ret
  exact ⟨rfl, ((Chg.refl Non w).alloc _).drewN _⟩
theorem may_n (op a b c : Nat) (n : Int) (hk : kdAt op = .n_) : mayB ⟨op, a, b, c, n⟩ = (((a : Int) == 0) && (((b : Int) == 0) && (((c : Int) == 0) && inB n 65535))) := by
  obtain ⟨hf, ho⟩ := kd_form op
  rw [hk] at hf ho
  have ho' : okB op = true := ho.2 (by decide)
  simp only [kdF, Prod.mk.injEq] at hf
  obtain ⟨h1, h2, h3, h4⟩ := hf
  unfold mayB
  simp only [ho', h1, h2, h3, h4, regB, inB]
  rw [Bool.eq_iff_iff]
  simp
  all_goals omega
set_option maxRecDepth 100000 in
set_option maxHeartbeats 1000000 in
theorem rmay_n0 (op a b c : Nat) (n : Int) (w : World) (ha : a < 256) (hb : b < 256) (hc : c < 256) (hk : kdAt op = .n_) (q0 : (((a : Int) == 0)) = false) :
    Calls Tryz.prog 54 #[.agg #[.int .u8 op, .int .u8 a, .int .u8 b, .int .u8 c, .int .i64 n]] w fun e w' => e = .returned (.bool false) ∧ Chg Non w w' := by
  have HF := Lib.hid (fun w => Form_ok op w)
  rw [hk] at HF
  rw [show (⟨(kdL .n_).toArray⟩ : ByteArray) = ⟨#[110]⟩ from rfl] at HF
  clear hk
  go_enter Tryz.func54, Tryz.ntmps54
  go_wp2_with fail
  go_quiet (fail)
  go_wp2_with fail
  refine (HF.out _).mono ?_
  rintro e w1 ⟨rfl, rfl⟩
  go_wp2_with fail
  go_ret
  exact ⟨rfl, ((Chg.refl Non w).alloc _).drewN _⟩
set_option maxRecDepth 100000 in
set_option maxHeartbeats 1000000 in
theorem rmay_n1 (op a b c : Nat) (n : Int) (w : World) (ha : a < 256) (hb : b < 256) (hc : c < 256) (hk : kdAt op = .n_) (q0 : (((a : Int) == 0)) = true) (q1 : (((b : Int) == 0)) = false) :
    Calls Tryz.prog 54 #[.agg #[.int .u8 op, .int .u8 a, .int .u8 b, .int .u8 c, .int .i64 n]] w fun e w' => e = .returned (.bool false) ∧ Chg Non w w' := by
  have HF := Lib.hid (fun w => Form_ok op w)
  rw [hk] at HF
  rw [show (⟨(kdL .n_).toArray⟩ : ByteArray) = ⟨#[110]⟩ from rfl] at HF
  clear hk
  go_enter Tryz.func54, Tryz.ntmps54
  go_wp2_with fail
  go_quiet (fail)
  go_wp2_with fail
  refine (HF.out _).mono ?_
  rintro e w1 ⟨rfl, rfl⟩
  go_wp2_with fail
  go_ret
  exact ⟨rfl, ((Chg.refl Non w).alloc _).drewN _⟩
set_option maxRecDepth 100000 in
set_option maxHeartbeats 1000000 in
theorem rmay_n2 (op a b c : Nat) (n : Int) (w : World) (ha : a < 256) (hb : b < 256) (hc : c < 256) (hk : kdAt op = .n_) (q0 : (((a : Int) == 0)) = true) (q1 : (((b : Int) == 0)) = true) (q2 : (((c : Int) == 0)) = false) :
    Calls Tryz.prog 54 #[.agg #[.int .u8 op, .int .u8 a, .int .u8 b, .int .u8 c, .int .i64 n]] w fun e w' => e = .returned (.bool false) ∧ Chg Non w w' := by
  have HF := Lib.hid (fun w => Form_ok op w)
  rw [hk] at HF
  rw [show (⟨(kdL .n_).toArray⟩ : ByteArray) = ⟨#[110]⟩ from rfl] at HF
  clear hk
  go_enter Tryz.func54, Tryz.ntmps54
  go_wp2_with fail
  go_quiet (fail)
  go_wp2_with fail
  refine (HF.out _).mono ?_
  rintro e w1 ⟨rfl, rfl⟩
  go_wp2_with fail
  go_ret
  exact ⟨rfl, ((Chg.refl Non w).alloc _).drewN _⟩
set_option maxRecDepth 100000 in
set_option maxHeartbeats 1000000 in
theorem rmay_n3 (op a b c : Nat) (n : Int) (w : World) (ha : a < 256) (hb : b < 256) (hc : c < 256) (hk : kdAt op = .n_) (q0 : (((a : Int) == 0)) = true) (q1 : (((b : Int) == 0)) = true) (q2 : (((c : Int) == 0)) = true) (q3 : (inB n 65535) = false) :
    Calls Tryz.prog 54 #[.agg #[.int .u8 op, .int .u8 a, .int .u8 b, .int .u8 c, .int .i64 n]] w fun e w' => e = .returned (.bool false) ∧ Chg Non w w' := by
  have HF := Lib.hid (fun w => Form_ok op w)
  rw [hk] at HF
  rw [show (⟨(kdL .n_).toArray⟩ : ByteArray) = ⟨#[110]⟩ from rfl] at HF
  clear hk
  have I3 := Lib.hid (fun w => in_ok n 65535 w)
  rw [q3] at I3
  clear q3
  go_enter Tryz.func54, Tryz.ntmps54
  go_wp2_with fail
  go_quiet (fail)
  go_wp2_with fail
  refine (HF.out _).mono ?_
  rintro e w1 ⟨rfl, rfl⟩
  go_wp2_with fail
  refine (I3.out _).mono ?_
  rintro e w2 ⟨rfl, rfl⟩
  go_wp2_with fail
  go_ret
  exact ⟨rfl, ((Chg.refl Non w).alloc _).drewN _⟩
set_option maxRecDepth 100000 in
set_option maxHeartbeats 1000000 in
theorem rmay_n4 (op a b c : Nat) (n : Int) (w : World) (ha : a < 256) (hb : b < 256) (hc : c < 256) (hk : kdAt op = .n_) (q0 : (((a : Int) == 0)) = true) (q1 : (((b : Int) == 0)) = true) (q2 : (((c : Int) == 0)) = true) (q3 : (inB n 65535) = true) :
    Calls Tryz.prog 54 #[.agg #[.int .u8 op, .int .u8 a, .int .u8 b, .int .u8 c, .int .i64 n]] w fun e w' => e = .returned (.bool true) ∧ Chg Non w w' := by
  have HF := Lib.hid (fun w => Form_ok op w)
  rw [hk] at HF
  rw [show (⟨(kdL .n_).toArray⟩ : ByteArray) = ⟨#[110]⟩ from rfl] at HF
  clear hk
  have I3 := Lib.hid (fun w => in_ok n 65535 w)
  rw [q3] at I3
  clear q3
  go_enter Tryz.func54, Tryz.ntmps54
  go_wp2_with fail
  go_quiet (fail)
  go_wp2_with fail
  refine (HF.out _).mono ?_
  rintro e w1 ⟨rfl, rfl⟩
  go_wp2_with fail
  refine (I3.out _).mono ?_
  rintro e w2 ⟨rfl, rfl⟩
  go_wp2_with fail
  go_ret
  exact ⟨rfl, ((Chg.refl Non w).alloc _).drewN _⟩

set_option maxRecDepth 100000 in
theorem rmay_no (op a b c : Nat) (n : Int) (w : World) (ha : a < 256) (hb : b < 256) (hc : c < 256) (hk : kdAt op = .no) :
    Calls Tryz.prog 54 #[.agg #[.int .u8 op, .int .u8 a, .int .u8 b, .int .u8 c, .int .i64 n]] w fun e w' => e = .returned (.bool false) ∧ Chg Non w w' := by
  have HF := Lib.hid (fun w => Form_ok op w)
  rw [hk] at HF
  rw [show (⟨(kdL .no).toArray⟩ : ByteArray) = ⟨#[]⟩ from rfl] at HF
  clear hk
  go_enter Tryz.func54, Tryz.ntmps54
  go_wp2_with fail
  go_quiet (fail)
  go_wp2_with fail
  refine (HF.out _).mono ?_
  rintro e w1 ⟨rfl, rfl⟩
  go_wp2_with fail
  go_ret
  exact ⟨rfl, ((Chg.refl Non w).alloc _).drewN _⟩
theorem rMay_ok (op a b c : Nat) (n : Int) (w : World) (hx : Ins.Bd ⟨op, a, b, c, n⟩) :
    Calls Tryz.prog 54 #[.agg #[.int .u8 op, .int .u8 a, .int .u8 b, .int .u8 c, .int .i64 n]] w fun e w' => e = .returned (.bool (mayB ⟨op, a, b, c, n⟩)) ∧ Chg Non w w' := by
  have ha := hx.a
  have hb := hx.b
  have hc := hx.c
  simp only at ha hb hc
  cases hk : kdAt op with
  | no =>
    have e : mayB ⟨op, a, b, c, n⟩ = false := by
      have := (kd_form op).2
      rw [hk] at this
      unfold mayB
      cases ho : okB op with
      | true => exact absurd rfl (this.1 ho)
      | false => rfl
    rw [e]
    exact rmay_no op a b c n w ha hb hc hk
  | none_ =>
    rw [may_none op a b c n hk]
    cases q0 : ((a : Int) == 0) with
    | false => simpa using rmay_none0 op a b c n w ha hb hc hk q0
    | true =>
      cases q1 : ((b : Int) == 0) with
      | false => simpa using rmay_none1 op a b c n w ha hb hc hk q0 q1
      | true =>
        cases q2 : ((c : Int) == 0) with
        | false => simpa using rmay_none2 op a b c n w ha hb hc hk q0 q1 q2
        | true =>
          cases q3 : (n == 0) with
          | false => simpa using rmay_none3 op a b c n w ha hb hc hk q0 q1 q2 q3
          | true =>
            simpa using rmay_none4 op a b c n w ha hb hc hk q0 q1 q2 q3
  | an =>
    rw [may_an op a b c n hk]
    cases q0 : inB (a : Int) 7 with
    | false => simpa using rmay_an0 op a b c n w ha hb hc hk q0
    | true =>
      cases q1 : ((b : Int) == 0) with
      | false => simpa using rmay_an1 op a b c n w ha hb hc hk q0 q1
      | true =>
        cases q2 : ((c : Int) == 0) with
        | false => simpa using rmay_an2 op a b c n w ha hb hc hk q0 q1 q2
        | true =>
          cases q3 : inB n 65535 with
          | false => simpa using rmay_an3 op a b c n w ha hb hc hk q0 q1 q2 q3
          | true =>
            simpa using rmay_an4 op a b c n w ha hb hc hk q0 q1 q2 q3
  | ab =>
    rw [may_ab op a b c n hk]
    cases q0 : inB (a : Int) 7 with
    | false => simpa using rmay_ab0 op a b c n w ha hb hc hk q0
    | true =>
      cases q1 : inB (b : Int) 7 with
      | false => simpa using rmay_ab1 op a b c n w ha hb hc hk q0 q1
      | true =>
        cases q2 : ((c : Int) == 0) with
        | false => simpa using rmay_ab2 op a b c n w ha hb hc hk q0 q1 q2
        | true =>
          cases q3 : (n == 0) with
          | false => simpa using rmay_ab3 op a b c n w ha hb hc hk q0 q1 q2 q3
          | true =>
            simpa using rmay_ab4 op a b c n w ha hb hc hk q0 q1 q2 q3
  | abc =>
    rw [may_abc op a b c n hk]
    cases q0 : inB (a : Int) 7 with
    | false => simpa using rmay_abc0 op a b c n w ha hb hc hk q0
    | true =>
      cases q1 : inB (b : Int) 7 with
      | false => simpa using rmay_abc1 op a b c n w ha hb hc hk q0 q1
      | true =>
        cases q2 : inB (c : Int) 7 with
        | false => simpa using rmay_abc2 op a b c n w ha hb hc hk q0 q1 q2
        | true =>
          cases q3 : (n == 0) with
          | false => simpa using rmay_abc3 op a b c n w ha hb hc hk q0 q1 q2 q3
          | true =>
            simpa using rmay_abc4 op a b c n w ha hb hc hk q0 q1 q2 q3
  | abn =>
    rw [may_abn op a b c n hk]
    cases q0 : inB (a : Int) 7 with
    | false => simpa using rmay_abn0 op a b c n w ha hb hc hk q0
    | true =>
      cases q1 : inB (b : Int) 7 with
      | false => simpa using rmay_abn1 op a b c n w ha hb hc hk q0 q1
      | true =>
        cases q2 : ((c : Int) == 0) with
        | false => simpa using rmay_abn2 op a b c n w ha hb hc hk q0 q1 q2
        | true =>
          cases q3 : inB n 255 with
          | false => simpa using rmay_abn3 op a b c n w ha hb hc hk q0 q1 q2 q3
          | true =>
            simpa using rmay_abn4 op a b c n w ha hb hc hk q0 q1 q2 q3
  | n_ =>
    rw [may_n op a b c n hk]
    cases q0 : ((a : Int) == 0) with
    | false => simpa using rmay_n0 op a b c n w ha hb hc hk q0
    | true =>
      cases q1 : ((b : Int) == 0) with
      | false => simpa using rmay_n1 op a b c n w ha hb hc hk q0 q1
      | true =>
        cases q2 : ((c : Int) == 0) with
        | false => simpa using rmay_n2 op a b c n w ha hb hc hk q0 q1 q2
        | true =>
          cases q3 : inB n 65535 with
          | false => simpa using rmay_n3 op a b c n w ha hb hc hk q0 q1 q2 q3
          | true =>
            simpa using rmay_n4 op a b c n w ha hb hc hk q0 q1 q2 q3
end Go.Proofs.YtpcmnphohneddaaGreatDoor
