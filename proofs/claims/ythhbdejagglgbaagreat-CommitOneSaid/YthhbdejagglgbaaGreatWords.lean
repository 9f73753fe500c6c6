/- Walks of package words: Row (at 4 and 8), Put32, Put64, Number, load, Load64. -/
import Derived.Test.YthhbdejagglgbaaGreatRows
import Derived.Test.YthhbdejagglgbaaGreatTypes
import Derived.Test.YthhbdejagglgbaaGreatNum
import Derived.Deep.DeepFit
import Derived.BigQuiet
namespace Go.Proofs.YthhbdejagglgbaaGreat
open Go.RowKit
set_option linter.unusedVariables false

theorem be4 (x : Nat) : be x 4 = [UInt8.ofNat (x / 256 / 256 / 256), UInt8.ofNat (x / 256 / 256), UInt8.ofNat (x / 256), UInt8.ofNat x] := rfl
theorem be8 (x : Nat) : be x 8 = [UInt8.ofNat (x / 256 / 256 / 256 / 256 / 256 / 256 / 256), UInt8.ofNat (x / 256 / 256 / 256 / 256 / 256 / 256), UInt8.ofNat (x / 256 / 256 / 256 / 256 / 256), UInt8.ofNat (x / 256 / 256 / 256 / 256),
  UInt8.ofNat (x / 256 / 256 / 256), UInt8.ofNat (x / 256 / 256), UInt8.ofNat (x / 256), UInt8.ofNat x] := rfl
theorem bv_ofNat (x : Nat) : bv (UInt8.ofNat x) = .int .u8 ((x : Int) % 256) := by
  simp only [bv, ofNat_toNat]; rfl

set_option maxRecDepth 100000 in
set_option maxHeartbeats 1000000 in
theorem Row4 (x : Nat) (w : World) (h1 : x < 18446744073709551616) :
    Calls Tryz.prog 112 #[.int .u64 x, .int .i64 4] w (RetB w (be x 4)) := by
  have hmk : ∀ W : World, (Instr.makeSlice 29 (.int .i64 4) (.int .i64 4)).run Tryz.prog W = .ok (.slice (some ⟨W.heap.size, 0, none⟩) 4 4) (W.alloc (.cells #[.int .u8 0, .int .u8 0, .int .u8 0, .int .u8 0] 5)) := mk_bytes 4 (by omega) (by omega)
  have h0 : (0 : Int) ≤ x := by omega
  have h2 : (x : Int) < 18446744073709551616 := by omega
  go_enter Tryz.func112, Tryz.ntmps112
  go_wp2
  refine wp_loop_rounds 5 ?_
  rw [rounds_succ]
  go_wp2
  rw [rounds_succ]
  go_wp2
  rw [rounds_succ]
  go_wp2
  rw [rounds_succ]
  go_wp2
  rw [rounds_succ]
  go_wp2
  go_ret
  refine ⟨some ⟨w.heap.size, 0, none⟩, 4, by rw [be_length]; rfl, by rw [be_length]; omega, by unfold maxLen; omega, own_new _ _ _ _ ?_, (Chg.refl _ _).alloc _⟩
  simp only [be4, List.map_cons, List.map_nil, bv_ofNat]
  rfl

set_option maxRecDepth 100000 in
set_option maxHeartbeats 1000000 in
theorem Row8 (x : Nat) (w : World) (h1 : x < 18446744073709551616) :
    Calls Tryz.prog 112 #[.int .u64 x, .int .i64 8] w (RetB w (be x 8)) := by
  have hmk : ∀ W : World, (Instr.makeSlice 29 (.int .i64 8) (.int .i64 8)).run Tryz.prog W = .ok (.slice (some ⟨W.heap.size, 0, none⟩) 8 8) (W.alloc (.cells #[.int .u8 0, .int .u8 0, .int .u8 0, .int .u8 0, .int .u8 0, .int .u8 0, .int .u8 0, .int .u8 0] 5)) := mk_bytes 8 (by omega) (by omega)
  have h0 : (0 : Int) ≤ x := by omega
  have h2 : (x : Int) < 18446744073709551616 := by omega
  go_enter Tryz.func112, Tryz.ntmps112
  go_wp2
  refine wp_loop_rounds 9 ?_
  iterate 9
    rw [rounds_succ]
    go_wp2
  go_ret
  refine ⟨some ⟨w.heap.size, 0, none⟩, 8, by rw [be_length]; rfl, by rw [be_length]; omega, by unfold maxLen; omega, own_new _ _ _ _ ?_, (Chg.refl _ _).alloc _⟩
  have e : ((x / 256 / 256 / 256 / 256 / 256 / 256 / 256 : Nat) : Int) % 256 = (x : Int) / 256 / 256 / 256 / 256 / 256 / 256 / 256 := by omega
  simp only [be8, List.map_cons, List.map_nil, bv_ofNat, e]
  rfl

set_option maxRecDepth 100000 in
set_option maxHeartbeats 1000000 in
theorem Put32 (x : Nat) (w : World) (h1 : x < 4294967296) :
    Calls Tryz.prog 113 #[.int .u32 x] w (RetB w (be x 4)) := by
  have h0 : (0 : Int) ≤ x := by omega
  have h2 : (x : Int) < 4294967296 := by omega
  go_enter Tryz.func113, Tryz.ntmps113
  go_wp2_with fail
  refine (Row4 x w (by omega)).mono ?_
  rintro e w' ⟨A, c, rfl, hc, hm, ho, hg⟩
  go_wp2
  go_ret
  exact ⟨A, c, rfl, hc, hm, ho, hg⟩

set_option maxRecDepth 100000 in
set_option maxHeartbeats 1000000 in
theorem Put64 (x : Nat) (w : World) (h1 : x < 18446744073709551616) :
    Calls Tryz.prog 96 #[.int .u64 x] w (RetB w (be x 8)) := by
  go_enter Tryz.func96, Tryz.ntmps96
  go_wp2_with fail
  refine (Row8 x w (by omega)).mono ?_
  rintro e w' ⟨A, c, rfl, hc, hm, ho, hg⟩
  go_wp2
  go_ret
  exact ⟨A, c, rfl, hc, hm, ho, hg⟩

theorem intEq {k : IntKind} {a b : Int} (h : a = b) : Value.int k a = Value.int k b := by rw [h]

set_option maxRecDepth 100000 in
set_option maxHeartbeats 1000000 in
theorem Number_ok (A : Option Addr) (l : List UInt8) (c : Nat) (w : World) (hr : Rd w A l) (h1 : 1 ≤ l.length) (h8 : l.length ≤ 8) :
    Calls Tryz.prog 126 #[.slice A l.length c] w fun e w' => e = .returned (.tuple #[.int .u64 (num l : Nat), .bool true]) ∧ w = w' := by
  obtain ⟨b, o, rfl, hb, hc⟩ := hr.at_ (by omega)
  have HC := Lib.hid hc
  clear hc
  have g1 : decide ((l.length : Int) < 1) = false := by simp; omega
  have g2 : decide ((l.length : Int) > 8) = false := by simp; omega
  go_enter Tryz.func126, Tryz.ntmps126
  go_wp2
  go_loop [4, 17] (fun x i => ∃ k : Nat, k ≤ l.length ∧ i = .int .i64 k ∧ x = .int .u64 (num (l.take k) : Nat)) (fun _ i => l.length - (intOf i).toNat)
  case atStart => exact ⟨0, Nat.zero_le _, rfl, rfl⟩
  case round =>
    obtain ⟨k, hk, rfl, rfl⟩ := hrel
    by_cases hlt : k < l.length
    · have hcell := HC.out k hlt
      have hd := (l[k]'hlt).toNat_lt
      have hn : num (l.take k) < 72057594037927936 := by
        have h1 := num_take_lt l k hk
        have h2 : 256 ^ k ≤ 256 ^ 7 := Nat.pow_le_pow_right (by omega) (by omega)
        omega
      have HS := num_take_snoc l k hlt
      obtain ⟨d, hd'⟩ : ∃ d : Nat, (l[k]'hlt).toNat = d := ⟨_, rfl⟩
      rw [hd'] at hcell hd HS
      clear hd'
      obtain ⟨v, hv⟩ : ∃ v : Nat, num (l.take k) = v := ⟨_, rfl⟩
      rw [hv] at hn HS ⊢
      clear hv
      replace HS := Lib.hid HS
      go_wp2
      go_round
      case rel => exact ⟨k + 1, by omega, by go_num, by rw [HS.out]; exact intEq (by omega)⟩
      case measure => simp [intOf]; omega
    · go_wp2
      go_ret2
      refine ⟨?_, rfl⟩
      have e : l.take k = l := List.take_of_length_le (by omega)
      rw [e]
      rfl

set_option maxRecDepth 100000 in
set_option maxHeartbeats 1000000 in
theorem Number_no (A : Option Addr) (n c : Nat) (w : World) (h : n < 1 ∨ 8 < n) :
    Calls Tryz.prog 126 #[.slice A n c] w fun e w' => e = .returned (.tuple #[.int .u64 0, .bool false]) ∧ w = w' := by
  rcases h with h | h
  · have g1 : decide ((n : Int) < 1) = true := by simp; omega
    go_enter Tryz.func126, Tryz.ntmps126
    go_wp2
    go_ret2
    exact ⟨rfl, rfl⟩
  · have g1 : decide ((n : Int) < 1) = false := by simp; omega
    have g2 : decide ((n : Int) > 8) = true := by simp; omega
    go_enter Tryz.func126, Tryz.ntmps126
    go_wp2
    go_ret2
    exact ⟨rfl, rfl⟩

set_option maxRecDepth 100000 in
set_option maxHeartbeats 1000000 in
theorem load_ok (A : Option Addr) (l : List UInt8) (c n : Nat) (w : World) (hr : Rd w A l) (hl : l.length = n) (h1 : 1 ≤ n) (h8 : n ≤ 8) (hcap : n ≤ c) (hc63 : c ≤ 9223372036854775807) :
    Calls Tryz.prog 110 #[.slice A n c, .int .i64 0, .int .i64 n] w fun e w' => e = .returned (.tuple #[.int .u64 (num l : Nat), .bool true]) ∧ w = w' := by
  subst hl
  obtain ⟨b, o, rfl, hb, hc⟩ := hr.at_ (by omega)
  clear hc
  go_enter Tryz.func110, Tryz.ntmps110
  go_wp2_with fail
  refine (Number_ok _ l c _ hr h1 h8).mono ?_
  rintro e w' ⟨rfl, rfl⟩
  go_wp2
  go_ret2
  exact ⟨rfl, rfl⟩

set_option maxRecDepth 100000 in
set_option maxHeartbeats 1000000 in
theorem Load64_ok (A : Option Addr) (l : List UInt8) (c : Nat) (w : World) (hr : Rd w A l) (hl : l.length = 8) (hcap : 8 ≤ c) (hc63 : c ≤ 9223372036854775807) :
    Calls Tryz.prog 86 #[.slice A 8 c, .int .i64 0] w fun e w' => e = .returned (.tuple #[.int .u64 (num l : Nat), .bool true]) ∧ w = w' := by
  go_enter Tryz.func86, Tryz.ntmps86
  go_wp2_with fail
  refine (load_ok _ l c 8 _ hr hl (by omega) (by omega) hcap hc63).mono ?_
  rintro e w' ⟨rfl, rfl⟩
  go_wp2
  go_ret2
  exact ⟨rfl, rfl⟩
end Go.Proofs.YthhbdejagglgbaaGreat
