/- The law AttemptApart: attempts of another Seqn are none; counting them forgets the others. Holds for every input; no condition. -/
import Derived.Test.YthhbdejagglgbaaAttAwake
namespace Go.Proofs.Ythhbdejagglgbaa
open Go.RowKit
set_option linter.unusedVariables false

set_option maxRecDepth 100000 in
set_option maxHeartbeats 2000000 in
theorem attApart_early (a b n m : Int) (w : World) (hg : a < 1 ∨ b < 1 ∨ a = b ∨ n < 1 ∨ 20 < n ∨ m < 1 ∨ 20 < m) :
    Calls Try.prog 4 #[.int .i64 a, .int .i64 b, .int .i64 n, .int .i64 m] w fun e w' => e = .returned (.bool true) ∧ Chg Non w w' := by
  have HA := Lib.hid (awake_ok w)
  by_cases h1 : a < 1
  · have h1 : decide (a < 1) = true := by simpa using h1
    clear hg
    go_enter Try.func4, Try.ntmps4
    go_wp2_with fail
    refine HA.out.mono ?_
    rintro e w1 ⟨rfl, g1⟩
    go_wp2
    go_ret
    exact ⟨rfl, g1⟩
  have h1 : decide (a < 1) = false := by simpa using h1
  by_cases h2 : b < 1
  · have h2 : decide (b < 1) = true := by simpa using h2
    clear hg
    go_enter Try.func4, Try.ntmps4
    go_wp2_with fail
    refine HA.out.mono ?_
    rintro e w1 ⟨rfl, g1⟩
    go_wp2
    go_ret
    exact ⟨rfl, g1⟩
  have h2 : decide (b < 1) = false := by simpa using h2
  by_cases h3 : a = b
  · have h3 : (a == b) = true := by simpa using h3
    clear hg
    go_enter Try.func4, Try.ntmps4
    go_wp2_with fail
    refine HA.out.mono ?_
    rintro e w1 ⟨rfl, g1⟩
    go_wp2
    go_ret
    exact ⟨rfl, g1⟩
  have h3 : (a == b) = false := by simpa using h3
  by_cases h4 : n < 1
  · have h4 : decide (n < 1) = true := by simpa using h4
    clear hg
    go_enter Try.func4, Try.ntmps4
    go_wp2_with fail
    refine HA.out.mono ?_
    rintro e w1 ⟨rfl, g1⟩
    go_wp2
    go_ret
    exact ⟨rfl, g1⟩
  have h4 : decide (n < 1) = false := by simpa using h4
  by_cases h5 : 20 < n
  · have h5 : decide (20 < n) = true := by simpa using h5
    clear hg
    go_enter Try.func4, Try.ntmps4
    go_wp2_with fail
    refine HA.out.mono ?_
    rintro e w1 ⟨rfl, g1⟩
    go_wp2
    go_ret
    exact ⟨rfl, g1⟩
  have h5 : decide (20 < n) = false := by simpa using h5
  by_cases h6 : m < 1
  · have h6 : decide (m < 1) = true := by simpa using h6
    clear hg
    go_enter Try.func4, Try.ntmps4
    go_wp2_with fail
    refine HA.out.mono ?_
    rintro e w1 ⟨rfl, g1⟩
    go_wp2
    go_ret
    exact ⟨rfl, g1⟩
  have h6 : decide (m < 1) = false := by simpa using h6
  have h7 : decide (20 < m) = true := by simp at *; omega
  clear hg
  go_enter Try.func4, Try.ntmps4
  go_wp2_with fail
  refine HA.out.mono ?_
  rintro e w1 ⟨rfl, g1⟩
  go_wp2
  go_ret
  exact ⟨rfl, g1⟩

set_option maxRecDepth 100000 in
set_option maxHeartbeats 2000000 in
theorem attApart_walk (a b n m : Int) (ha : a ≤ 9223372036854775807) (hb : b ≤ 9223372036854775807) (w : World) :
    Calls Try.prog 4 #[.int .i64 a, .int .i64 b, .int .i64 n, .int .i64 m] w fun e w' => e = .returned (.bool true) ∧ Chg Non w w' := by
  by_cases hg : a < 1 ∨ b < 1 ∨ a = b ∨ n < 1 ∨ 20 < n ∨ m < 1 ∨ 20 < m
  · exact attApart_early a b n m w hg
  have HA := Lib.hid (awake_ok w)
  have h1 : decide (a < 1) = false := by simp; omega
  have h2 : decide (b < 1) = false := by simp; omega
  have h3 : (a == b) = false := beq_eq_false_iff_ne.2 (by omega)
  have h4 : decide (n < 1) = false := by simp; omega
  have h5 : decide (20 < n) = false := by simp; omega
  have h6 : decide (m < 1) = false := by simp; omega
  have h7 : decide (20 < m) = false := by simp; omega
  have hab : a ≠ b := by omega
  go_enter Try.func4, Try.ntmps4
  go_wp2_with fail
  refine HA.out.mono ?_
  rintro e w1 ⟨rfl, g1⟩
  go_wp2_with fail
  refine (kept_new w _ g1).mono ?_
  rintro e w2 ⟨pd, ps, pm, rfl, k2⟩
  have K2 := Lib.hid k2
  clear k2
  go_wp2_with fail
  go_loopw [11] (fun i wr => ∃ k : Int, 0 ≤ k ∧ k ≤ n ∧ i = .int .i64 k ∧ Kept w wr pd ps pm (if k = 0 then 0 else a) k) (fun i _ => (n - intOf i).toNat)
  case atStart => exact ⟨0, by omega, by omega, rfl, K2.out⟩
  case round =>
    obtain ⟨k, hk0, hkn, rfl, hk⟩ := hrel
    have HK := Lib.hid hk
    clear hk
    by_cases hlt : k < n
    · have hltd : decide (k < n) = true := by simpa using hlt
      have hq : (if (if k = 0 then 0 else a) = a then k else 0) = k := by
        by_cases hz : k = 0
        · subst hz; simp
        · simp [hz]
      have hnx := kept_next HK.out a (by omega) ha hk0 (by omega)
      rw [hq] at hnx
      have HN := Lib.hid hnx
      clear hnx hq
      go_wp2_with fail
      refine HN.out.mono ?_
      rintro e w3 ⟨rfl, k3⟩
      have K3 := Lib.hid k3
      clear k3
      go_wp2_with fail
      go_roundw
      case rel => exact ⟨k + 1, by omega, by omega, by go_simp, by rw [if_neg (by omega)]; exact K3.out⟩
      case measure => show (n - (k + 1)).toNat < (n - k).toNat; omega
    · have hltd : decide (k < n) = false := by simpa using hlt
      have hke : k = n := by omega
      subst hke
      have hx := kept_get HK.out b
      rw [if_neg (show ¬ (k = 0) by omega), if_neg hab] at hx
      have HX := Lib.hid hx
      clear hx
      go_wp2_with fail
      refine HX.out.mono ?_
      rintro e w3 ⟨rfl, k3⟩
      have K3 := Lib.hid k3
      clear k3
      go_wp2_with fail
      go_loopw [16] (fun i wr => ∃ j : Int, 0 ≤ j ∧ j ≤ m ∧ i = .int .i64 j ∧ Kept w wr pd ps pm (if j = 0 then a else b) (if j = 0 then k else j)) (fun i _ => (m - intOf i).toNat)
      case atStart => exact ⟨0, by omega, by omega, rfl, by simpa [show ¬ k = 0 by omega] using K3.out⟩
      case round =>
        obtain ⟨j, hj0, hjn, rfl, hk⟩ := hrel
        have HK := Lib.hid hk
        clear hk
        by_cases hltm : j < m
        · have hltmd : decide (j < m) = true := by simpa using hltm
          have hq : (if (if j = 0 then a else b) = b then (if j = 0 then k else j) else 0) = j := by
            by_cases hz : j = 0
            · subst hz; simp [hab]
            · simp [hz]
          have hnx := kept_next HK.out b (by omega) hb (by split <;> omega) (by split <;> omega)
          rw [hq] at hnx
          have HN := Lib.hid hnx
          clear hnx hq
          go_wp2_with fail
          refine HN.out.mono ?_
          rintro e w4 ⟨rfl, k4⟩
          have K4 := Lib.hid k4
          clear k4
          go_wp2_with fail
          go_roundw
          case rel => exact ⟨j + 1, by omega, by omega, by go_simp, by rw [if_neg (by omega), if_neg (by omega)]; exact K4.out⟩
          case measure => show (m - (j + 1)).toNat < (m - j).toNat; omega
        · have hltmd : decide (j < m) = false := by simpa using hltm
          have hje : j = m := by omega
          subst hje
          have hkk := HK.out
          rw [if_neg (show ¬ (j = 0) by omega), if_neg (show ¬ (j = 0) by omega)] at hkk
          have hx := kept_get hkk a
          rw [if_neg (Ne.symm hab)] at hx
          have HX2 := Lib.hid hx
          clear hx hkk
          go_wp2_with fail
          refine HX2.out.mono ?_
          rintro e w4 ⟨rfl, k4⟩
          have hx := kept_get k4 b
          rw [if_pos rfl] at hx
          have HX3 := Lib.hid hx
          clear hx k4
          go_wp2_with fail
          refine HX3.out.mono ?_
          rintro e w5 ⟨rfl, k5⟩
          have K5 := Lib.hid k5.chg
          clear k5
          go_wp2
          go_ret
          exact ⟨rfl, K5.out⟩
end Go.Proofs.Ythhbdejagglgbaa
