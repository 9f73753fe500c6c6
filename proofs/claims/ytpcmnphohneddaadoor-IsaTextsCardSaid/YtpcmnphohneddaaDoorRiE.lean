/- The document's answer of layer 19: digits, its loop. (Written by wip/gen_riE.py.) -/
import Derived.Test.YtpcmnphohneddaaDoorRiD
namespace Go.Proofs.YtpcmnphohneddaaDoor
open Go.RowKit
set_option linter.unusedVariables false

theorem wrap64_in (n : Int) (h0 : -9223372036854775808 ≤ n) (h1 : n ≤ 9223372036854775807) : wrap64 n = n := by
  have := Go.IntWalk.i64_in n (by omega)
  first | exact this | (unfold wrap64; omega)
set_option maxRecDepth 100000 in
set_option maxHeartbeats 1000000 in
theorem rDig_one (x : UInt8) (w : World) :
    Calls Tryd.prog 34 #[mkStr ([x])] w fun e w' => e = .returned (.int .i64 (digZ (digF 0 ([x])))) ∧ w = w' := by
  obtain ⟨L, hL⟩ : ∃ L, [x] = L := ⟨_, rfl⟩
  have hl : L.length = 1 := by rw [← hL]; rfl
  have hl5 : L.length ≤ 5 := by omega
  have hb0 : ((L.length : Int) == 0) = false := by rw [beq_eq_false_iff_ne]; omega
  rw [hL]
  clear hL
  unfold mkStr
  go_enter Tryd.func34, Tryd.ntmps34
  go_wp2_with fail
  go_loopw [3, 4] (fun n i wr => ∃ k m : Nat, k ≤ L.length ∧ i = .int .i64 k ∧ n = .int .i64 m ∧ digF m (L.drop k) = digF 0 L ∧ m < 10 ^ k ∧ w = wr) (fun _ i _ => 9 - (intOf i).toNat)
  case atStart => exact ⟨0, 0, by omega, rfl, rfl, rfl, by decide, rfl⟩
  case round =>
    obtain ⟨k, m, hk, rfl, rfl, hd, hm, rfl⟩ := hrel
    rcases Nat.lt_or_ge k L.length with hlt | hge
    · have hk5 : k ≤ 5 := by omega
      have hlti : decide ((k : Int) < (L.length : Int)) = true := by simp; omega
      have hy : digF m (L.drop k) = if (L[k]).toNat < 48 ∨ 57 < (L[k]).toNat then none else digF (10 * m + ((L[k]).toNat - 48)) (L.drop (k + 1)) := by
        rw [List.drop_eq_getElem_cons hlt]
        rfl
      rw [hy] at hd
      have hm5 : 10 ^ k ≤ 10 ^ 4 := Nat.pow_le_pow_right (by decide) (by omega)
      have hps : 10 ^ (k + 1) = 10 * 10 ^ k := by rw [Nat.pow_succ]; omega
      go_wp2_with fail
      · have hz : ((L[k]).toNat : Int) < 48 ∨ 57 < ((L[k]).toNat : Int) := by assumption
        go_ret
        refine ⟨?_, rfl⟩
        rw [← hd, if_pos (by omega)]
        rfl
      · have hz : (48 : Int) ≤ ((L[k]).toNat : Int) ∧ ((L[k]).toNat : Int) ≤ 57 := by assumption
        rw [if_neg (by omega)] at hd
        refine ⟨⟨k + 1, 10 * m + ((L[k]).toNat - 48), by omega, by simp, ?_, hd, by omega, trivial⟩, ?_⟩
        · congr 1
          show 10 * (m : Int) + (((L[k]).toNat : Int) - 48) = _
          omega
        · show 9 - ((k : Int) + 1).toNat < 9 - (k : Int).toNat
          omega
      · have hz : ((L[k]).toNat : Int) < 48 := by assumption
        go_ret
        refine ⟨?_, rfl⟩
        rw [← hd, if_pos (by omega)]
        rfl
    · have hlti : decide ((k : Int) < (L.length : Int)) = false := by simp; omega
      obtain rfl : k = L.length := by omega
      rw [List.drop_length] at hd
      go_wp2_with fail
      go_ret
      exact ⟨by rw [← hd]; rfl, rfl⟩
set_option maxRecDepth 100000 in
set_option maxHeartbeats 1000000 in
theorem rDig_two (x y : UInt8) (r : List UInt8) (hx : x ≠ 48) (hr : r.length < 4) (w : World) :
    Calls Tryd.prog 34 #[mkStr (x :: y :: r)] w fun e w' => e = .returned (.int .i64 (digZ (digF 0 (x :: y :: r)))) ∧ w = w' := by
  obtain ⟨L, hL⟩ : ∃ L, x :: y :: r = L := ⟨_, rfl⟩
  have hl5 : L.length ≤ 5 := by rw [← hL]; simp; omega
  have hl2 : 2 ≤ L.length := by rw [← hL]; simp
  have hb5 : decide (5 < (L.length : Int)) = false := by simp; omega
  have hb2 : 1 < (L.length : Int) := by omega
  have h48 : (((((⟨L.toArray⟩ : ByteArray)[0]'(by show 0 < L.length; omega)).toNat : Int)) == 48) = false := by
    subst hL
    show ((x.toNat : Int) == 48) = false
    rw [beq_eq_false_iff_ne]
    intro h
    exact hx (UInt8.toNat_inj.1 (by simp at h ⊢; omega))
  have hb0 : ((L.length : Int) == 0) = false := by rw [beq_eq_false_iff_ne]; omega
  rw [hL]
  clear hL
  unfold mkStr
  go_enter Tryd.func34, Tryd.ntmps34
  go_wp2_with fail
  go_loopw [3, 4] (fun n i wr => ∃ k m : Nat, k ≤ L.length ∧ i = .int .i64 k ∧ n = .int .i64 m ∧ digF m (L.drop k) = digF 0 L ∧ m < 10 ^ k ∧ w = wr) (fun _ i _ => 9 - (intOf i).toNat)
  case atStart => exact ⟨0, 0, by omega, rfl, rfl, rfl, by decide, rfl⟩
  case round =>
    obtain ⟨k, m, hk, rfl, rfl, hd, hm, rfl⟩ := hrel
    rcases Nat.lt_or_ge k L.length with hlt | hge
    · have hk5 : k ≤ 5 := by omega
      have hlti : decide ((k : Int) < (L.length : Int)) = true := by simp; omega
      have hy : digF m (L.drop k) = if (L[k]).toNat < 48 ∨ 57 < (L[k]).toNat then none else digF (10 * m + ((L[k]).toNat - 48)) (L.drop (k + 1)) := by
        rw [List.drop_eq_getElem_cons hlt]
        rfl
      rw [hy] at hd
      have hm5 : 10 ^ k ≤ 10 ^ 4 := Nat.pow_le_pow_right (by decide) (by omega)
      have hps : 10 ^ (k + 1) = 10 * 10 ^ k := by rw [Nat.pow_succ]; omega
      go_wp2_with fail
      · have hz : ((L[k]).toNat : Int) < 48 ∨ 57 < ((L[k]).toNat : Int) := by assumption
        go_ret
        refine ⟨?_, rfl⟩
        rw [← hd, if_pos (by omega)]
        rfl
      · have hz : (48 : Int) ≤ ((L[k]).toNat : Int) ∧ ((L[k]).toNat : Int) ≤ 57 := by assumption
        rw [if_neg (by omega)] at hd
        refine ⟨⟨k + 1, 10 * m + ((L[k]).toNat - 48), by omega, by simp, ?_, hd, by omega, trivial⟩, ?_⟩
        · congr 1
          show 10 * (m : Int) + (((L[k]).toNat : Int) - 48) = _
          omega
        · show 9 - ((k : Int) + 1).toNat < 9 - (k : Int).toNat
          omega
      · have hz : ((L[k]).toNat : Int) < 48 := by assumption
        go_ret
        refine ⟨?_, rfl⟩
        rw [← hd, if_pos (by omega)]
        rfl
    · have hlti : decide ((k : Int) < (L.length : Int)) = false := by simp; omega
      obtain rfl : k = L.length := by omega
      rw [List.drop_length] at hd
      go_wp2_with fail
      go_ret
      exact ⟨by rw [← hd]; rfl, rfl⟩
end Go.Proofs.YtpcmnphohneddaaDoor
