/- The law AttemptCounts: whatever crashes in a Next: behind it there are as many attempts as were, or one more. Holds for every input; no condition. -/
import Derived.Test.YthhbdejagglgbaaAttC
import Derived.Test.YthhbdejagglgbaaAttPut
namespace Go.Proofs.Ythhbdejagglgbaa
open Go.RowKit
set_option linter.unusedVariables false

set_option maxRecDepth 100000 in
set_option maxHeartbeats 2000000 in
theorem attCounts_early (q n at_ : Int) (B : Option Addr) (len c : Nat) (w : World) (hg : q < 1 ∨ n < 0 ∨ 1000 < n ∨ at_ < 1 ∨ 5 < (len : Int)) :
    Calls Try.prog 6 #[.int .i64 q, .int .i64 n, .int .i64 at_, .slice B len c] w fun e w' => e = .returned (.bool true) ∧ Chg Non w w' := by
  have HA := Lib.hid (awake_ok w)
  by_cases h1 : q < 1
  · have h1 : decide (q < 1) = true := by simpa using h1
    clear hg
    go_enter Try.func6, Try.ntmps6
    go_wp2_with fail
    refine HA.out.mono ?_
    rintro e w1 ⟨rfl, g1⟩
    go_wp2
    go_ret
    exact ⟨rfl, g1⟩
  have h1 : decide (q < 1) = false := by simpa using h1
  by_cases h2 : n < 0
  · have h2 : decide (n < 0) = true := by simpa using h2
    clear hg
    go_enter Try.func6, Try.ntmps6
    go_wp2_with fail
    refine HA.out.mono ?_
    rintro e w1 ⟨rfl, g1⟩
    go_wp2
    go_ret
    exact ⟨rfl, g1⟩
  have h2 : decide (n < 0) = false := by simpa using h2
  by_cases h3 : 1000 < n
  · have h3 : decide (1000 < n) = true := by simpa using h3
    clear hg
    go_enter Try.func6, Try.ntmps6
    go_wp2_with fail
    refine HA.out.mono ?_
    rintro e w1 ⟨rfl, g1⟩
    go_wp2
    go_ret
    exact ⟨rfl, g1⟩
  have h3 : decide (1000 < n) = false := by simpa using h3
  by_cases h4 : at_ < 1
  · have h4 : decide (at_ < 1) = true := by simpa using h4
    clear hg
    go_enter Try.func6, Try.ntmps6
    go_wp2_with fail
    refine HA.out.mono ?_
    rintro e w1 ⟨rfl, g1⟩
    go_wp2
    go_ret
    exact ⟨rfl, g1⟩
  have h4 : decide (at_ < 1) = false := by simpa using h4
  have h5 : decide (5 < (len : Int)) = true := by simp at *; omega
  clear hg
  go_enter Try.func6, Try.ntmps6
  go_wp2_with fail
  refine HA.out.mono ?_
  rintro e w1 ⟨rfl, g1⟩
  go_wp2
  go_ret
  exact ⟨rfl, g1⟩

/-- a calm disk of sector s that is armed -/
def KeptA (w0 w : World) (pd ps pm : Nat) (s : List UInt8) (at_ : Int) (l : List UInt8) : Prop :=
  ∃ D, IsD w pd ps pm { D with left := at_, stay := l } ∧ Calm D s ∧ w0.heap.size ≤ pd ∧ w0.heap.size ≤ ps ∧ w0.heap.size ≤ pm ∧ Chg Non w0 w

theorem kept_arm {w0 w : World} {pd ps pm : Nat} {s : List UInt8} (h : KeptS w0 w pd ps pm s) (at_ : Int) (B : Option Addr) (l : List UInt8) (c : Nat) (hr : Rd w0 B l) (hl : l.length ≤ 5) (hat : 1 ≤ at_) :
    Calls Try.prog 14 #[.pointer (some ⟨pd, 0, none⟩), .int .i64 at_, .slice B l.length c] w fun e w' => e = .returned (.int .i64 0) ∧ KeptA w0 w' pd ps pm s at_ l := by
  obtain ⟨D, h1, h2, h4, h5, h6, h7⟩ := h
  refine (Arm_up pd ps pm D at_ B l c w h1 h2.up (hr.non h7) (by omega) hat).mono ?_
  rintro e w' ⟨rfl, hd, hg⟩
  refine ⟨rfl, D, hd, h2, h4, h5, h6, h7.then_new hg ?_⟩
  rintro x (rfl | rfl | rfl) <;> assumption

/-- a disk that is up or down, and tells k attempts of q when it is up -/
def KeptU (w0 w : World) (pd ps pm : Nat) (u : Bool) (q k : Int) : Prop :=
  ∃ D, IsD w pd ps pm D ∧ D.up = u ∧ D.sec.length = 3 ∧ attN D q = k ∧ w0.heap.size ≤ pd ∧ w0.heap.size ≤ ps ∧ w0.heap.size ≤ pm ∧ Chg Non w0 w

theorem keptA_next {w0 w : World} {pd ps pm : Nat} {s : List UInt8} {at_ : Int} {l : List UInt8} (h : KeptA w0 w pd ps pm s at_ l) (q : Int) (hq : 1 ≤ q) (hq2 : q ≤ 9223372036854775807) (hn : 0 ≤ recN s q) (hn2 : recN s q ≤ 1000) (hat : 1 ≤ at_) (hat2 : at_ ≤ 9223372036854775807) (hl : l.length ≤ 5) :
    Calls Try.prog 8 #[.pointer (some ⟨pd, 0, none⟩), .int .i64 q] w fun e w' =>
      (2 < at_ → e = .returned (.tuple #[.int .i64 (recN s q + 1), .int .i64 0]) ∧ KeptU w0 w' pd ps pm true q (recN s q + 1)) ∧
      (at_ ≤ 2 → e = .returned (.tuple #[.int .i64 0, .int .i64 60]) ∧ ∃ k, (k = recN s q ∨ k = recN s q + 1) ∧ KeptU w0 w' pd ps pm false q k) := by
  obtain ⟨D, h1, h2, h4, h5, h6, h7⟩ := h
  obtain ⟨p1, p2⟩ := next_armed h2 q at_ l hq hq2 hn hn2 hat
  have ha : attN { D with left := at_, stay := l } q = recN s q := by rw [← h2.attN q]; rfl
  refine (Next_up pd ps pm { D with left := at_, stay := l } q w h1 h2.up ⟨by show l.length ≤ _; omega, by show at_ ≤ _; omega⟩ (by show 2 < D.sec.length; rw [h2.len]; omega) (by rw [ha]; omega)).mono ?_
  rintro e w' ⟨rfl, hd, hg⟩
  have hc := h7.then_new hg (by rintro x (rfl | rfl | rfl) <;> assumption)
  refine ⟨fun g => ?_, fun g => ?_⟩
  · obtain ⟨a1, a2, a3, a4⟩ := p1 g
    rw [a1]
    exact ⟨rfl, _, hd, a2, a3, a4, h4, h5, h6, hc⟩
  · obtain ⟨a1, a2, a3, a4, a5⟩ := p2 g
    rw [a1]
    exact ⟨rfl, _, a5, _, hd, a2, a3, attN_sec a4 q, h4, h5, h6, hc⟩

theorem keptU_up {w0 w : World} {pd ps pm : Nat} {u : Bool} {q k : Int} (h : KeptU w0 w pd ps pm u q k) :
    Calls Try.prog 15 #[.pointer (some ⟨pd, 0, none⟩)] w fun e w' => e = .returned (.bool u) ∧ w = w' := by
  obtain ⟨D, h1, h2, h3, _⟩ := h
  rw [← h2]
  exact Up_ok pd ps pm D w h1

theorem keptU_start {w0 w : World} {pd ps pm : Nat} {q k : Int} (h : KeptU w0 w pd ps pm false q k) :
    Calls Try.prog 16 #[.pointer (some ⟨pd, 0, none⟩)] w fun e w' => e = .returned (.int .i64 0) ∧ KeptU w0 w' pd ps pm true q k := by
  obtain ⟨D, h1, h2, h3, hk, h4, h5, h6, h7⟩ := h
  have hs : D.start = ({ D with up := true }, 0) := by unfold Dk.start; rw [h2]; rfl
  refine (Start_any pd ps pm D w h1).mono ?_
  rw [hs]
  rintro e w' ⟨rfl, hd, hg⟩
  refine ⟨rfl, _, hd, rfl, h3, hk, h4, h5, h6, h7.then_new hg ?_⟩
  rintro x (rfl | rfl | rfl) <;> assumption

theorem keptU_get {w0 w : World} {pd ps pm : Nat} {q k : Int} (h : KeptU w0 w pd ps pm true q k) :
    Calls Try.prog 7 #[.pointer (some ⟨pd, 0, none⟩), .int .i64 q] w fun e w' => e = .returned (.tuple #[.int .i64 k, .int .i64 0]) ∧ Chg Non w0 w' := by
  obtain ⟨D, h1, h2, h3, hk, h4, h5, h6, h7⟩ := h
  rw [← hk]
  refine (Get_up pd ps pm D q w h1 h2 (by rw [h3]; omega)).mono ?_
  rintro e w' ⟨rfl, hg⟩
  exact ⟨rfl, h7.then_non hg⟩

set_option maxRecDepth 100000 in
set_option maxHeartbeats 2000000 in
theorem attCounts_walk (q n at_ : Int) (B : Option Addr) (l : List UInt8) (c : Nat) (w : World) (hq2 : q ≤ 9223372036854775807) (hat2 : at_ ≤ 9223372036854775807) (hr : Rd w B l) :
    Calls Try.prog 6 #[.int .i64 q, .int .i64 n, .int .i64 at_, .slice B l.length c] w fun e w' => e = .returned (.bool true) ∧ Chg Non w w' := by
  by_cases hg : q < 1 ∨ n < 0 ∨ 1000 < n ∨ at_ < 1 ∨ 5 < (l.length : Int)
  · exact attCounts_early q n at_ B l.length c w hg
  have HA := Lib.hid (awake_ok w)
  have h1 : decide (q < 1) = false := by simp; omega
  have h2 : decide (n < 0) = false := by simp; omega
  have h3 : decide (1000 < n) = false := by simp; omega
  have h4 : decide (at_ < 1) = false := by simp; omega
  have h5 : decide (5 < (l.length : Int)) = false := by simp; omega
  have HB := Lib.hid hr
  clear hr
  go_enter Try.func6, Try.ntmps6
  go_wp2_with fail
  refine HA.out.mono ?_
  rintro e w1 ⟨rfl, g1⟩
  go_wp2_with fail
  refine (kept_new w _ g1).mono ?_
  rintro e w2 ⟨pd, ps, pm, rfl, k2⟩
  have K2 := Lib.hid k2
  clear k2
  by_cases h6 : 0 < n
  · have h6d : decide (0 < n) = true := by simpa using h6
    go_wp2_with fail
    refine (keptS_put K2.out q n (by omega) (by omega)).mono ?_
    rintro e w3 ⟨rfl, k3⟩
    have HS : Hid (∃ s, KeptS w w3 pd ps pm s ∧ recN s q = n) := Lib.hid ⟨_, k3, by rw [recN_seal q n q (by omega) (by omega) hq2 (by omega), if_pos rfl]⟩
    clear k3
    obtain ⟨s, hks, hrn⟩ := HS.out
    have HM := Lib.hid (kept_arm hks at_ B l c HB.out (by omega) (by omega))
    clear hks
    go_wp2_with fail
    refine HM.out.mono ?_
    rintro e w4 ⟨rfl, k4⟩
    have HN := Lib.hid (keptA_next k4 q (by omega) hq2 (by omega) (by omega) (by omega) hat2 (by omega))
    rw [hrn] at HN
    clear k4
    go_wp2_with fail
    refine HN.out.mono ?_
    rintro e w5 ⟨p1, p2⟩
    by_cases h7 : 2 < at_
    · have h7d : decide (2 < at_) = true := by simpa using h7
      obtain ⟨rfl, k5⟩ := p1 h7
      have HU := Lib.hid (keptU_up k5)
      have HG := Lib.hid (keptU_get k5)
      clear p1 p2 k5
      go_wp2_with fail
      refine HU.out.mono ?_
      rintro e w6 ⟨rfl, rfl⟩
      go_wp2_with fail
      refine HG.out.mono ?_
      rintro e w7 ⟨rfl, g7⟩
      go_wp2
      go_ret
      exact ⟨rfl, g7⟩
    · have h7d : decide (2 < at_) = false := by simpa using h7
      obtain ⟨rfl, k, hk, k5⟩ := p2 (by omega)
      have HU := Lib.hid (keptU_up k5)
      have HSt := Lib.hid (keptU_start k5)
      clear p1 p2 k5
      go_wp2_with fail
      refine HU.out.mono ?_
      rintro e w6 ⟨rfl, rfl⟩
      go_wp2_with fail
      refine HSt.out.mono ?_
      rintro e w7 ⟨rfl, k7⟩
      have HG := Lib.hid (keptU_get k7)
      clear k7
      go_wp2_with fail
      refine HG.out.mono ?_
      rintro e w8 ⟨rfl, g8⟩
      rcases hk with rfl | rfl
      · go_wp2
        go_ret
        exact ⟨rfl, g8⟩
      · have h8 : (n + 1 == n) = false := beq_eq_false_iff_ne.2 (by omega)
        go_wp2
        go_ret
        exact ⟨rfl, g8⟩
  · have h6d : decide (0 < n) = false := by simpa using h6
    have HS : Hid (∃ s, KeptS w w2 pd ps pm s ∧ recN s q = n) := by
      obtain ⟨D, s, d1, d2, d3, d4, d5, d6, d7⟩ := K2.out
      exact Lib.hid ⟨s, ⟨D, d1, d2, d4, d5, d6, d7⟩, by rw [d3]; split <;> omega⟩
    obtain ⟨s, hks, hrn⟩ := HS.out
    have HM := Lib.hid (kept_arm hks at_ B l c HB.out (by omega) (by omega))
    clear hks
    go_wp2_with fail
    refine HM.out.mono ?_
    rintro e w4 ⟨rfl, k4⟩
    have HN := Lib.hid (keptA_next k4 q (by omega) hq2 (by omega) (by omega) (by omega) hat2 (by omega))
    rw [hrn] at HN
    clear k4
    go_wp2_with fail
    refine HN.out.mono ?_
    rintro e w5 ⟨p1, p2⟩
    by_cases h7 : 2 < at_
    · have h7d : decide (2 < at_) = true := by simpa using h7
      obtain ⟨rfl, k5⟩ := p1 h7
      have HU := Lib.hid (keptU_up k5)
      have HG := Lib.hid (keptU_get k5)
      clear p1 p2 k5
      go_wp2_with fail
      refine HU.out.mono ?_
      rintro e w6 ⟨rfl, rfl⟩
      go_wp2_with fail
      refine HG.out.mono ?_
      rintro e w7 ⟨rfl, g7⟩
      go_wp2
      go_ret
      exact ⟨rfl, g7⟩
    · have h7d : decide (2 < at_) = false := by simpa using h7
      obtain ⟨rfl, k, hk, k5⟩ := p2 (by omega)
      have HU := Lib.hid (keptU_up k5)
      have HSt := Lib.hid (keptU_start k5)
      clear p1 p2 k5
      go_wp2_with fail
      refine HU.out.mono ?_
      rintro e w6 ⟨rfl, rfl⟩
      go_wp2_with fail
      refine HSt.out.mono ?_
      rintro e w7 ⟨rfl, k7⟩
      have HG := Lib.hid (keptU_get k7)
      clear k7
      go_wp2_with fail
      refine HG.out.mono ?_
      rintro e w8 ⟨rfl, g8⟩
      rcases hk with rfl | rfl
      · go_wp2
        go_ret
        exact ⟨rfl, g8⟩
      · have h8 : (n + 1 == n) = false := beq_eq_false_iff_ne.2 (by omega)
        go_wp2
        go_ret
        exact ⟨rfl, g8⟩
end Go.Proofs.Ythhbdejagglgbaa
