/- A new disk, and what update says of it. -/
import Derived.Test.YtlpfepniabdpjaaGreatUpNil3
namespace Go.Proofs.YtlpfepniabdpjaaGreat
open Go.RowKit
set_option linter.unusedVariables false

theorem ueq_cache (w : World) (r : Option Nat) : (binOp .eql 69 (.map r) (.map none)).run Tryz.prog w = .ok (.bool r.isNone) w :=
  run_eql_map_nil w _ _ _ r Tryz.underlying69
def zSecU : Array Value := Array.replicate 64 (.int .u8 0)
theorem info_secU : (Tryz.prog.info? 146).map (fun i => (i.zero, i.size, i.bytes)) = some (some (.agg zSecU), 64, 64) := by kernel_rfl

/-- a disk of 5 sectors -/
def Five (w : World) (pd : Nat) : Prop := ∃ A c m, w.cell? ⟨pd, 1, none⟩ = some (.slice A 5 c) ∧ w.cell? ⟨pd, 2, none⟩ = some (.map (some m))
theorem Five.non {w W : World} {pd : Nat} (h : Five w pd) (hg : Chg Non w W) : Five W pd := by
  obtain ⟨A, c, m, h1, h2⟩ := h
  exact ⟨A, c, m, hg.cell_some h1 (fun e => e), hg.cell_some h2 (fun e => e)⟩

set_option maxRecDepth 100000 in
set_option maxHeartbeats 2000000 in
theorem dNew5 (w : World) : Calls Tryz.prog 13 #[.int .i64 5] w fun e w' => ∃ pd, e = .returned (.tuple #[.pointer (some ⟨pd, 0, none⟩), .int .i64 0]) ∧ Five w' pd ∧ Chg Non w w' := by
  obtain ⟨i0, hi0, hz0, hs0, hb0⟩ := info_parts info_secU
  obtain ⟨X, hmk⟩ : ∃ X, ∀ W : World, (Instr.makeSlice 68 (.int .i64 5) (.int .i64 5)).run Tryz.prog W = .ok (.slice (some ⟨W.heap.size, 0, none⟩) 5 5) (W.alloc (.cells X 146)) :=
    ⟨madeCells zSecU (5 * 64), fun W => by
      have h := run_make (P := Tryz.prog) W 68 146 i0 (.agg zSecU) Tryz.underlying68 hi0 hz0 .i64 .i64 5 5 (by omega) (Int.le_refl _) (by rw [hb0]; omega) (by omega)
      rw [h, hs0]
      rfl⟩
  have hmm := @run_makeMap Tryz.prog
  clear hi0 hz0 hs0 hb0
  go_enter Tryz.func13, Tryz.ntmps13
  go_wp2
  go_ret2
  refine ⟨w.heap.size + 1 + 1, rfl, ⟨some ⟨w.heap.size, 0, none⟩, 5, w.heap.size + 1, by go_simp, by go_simp⟩, ((((Chg.refl _ _).alloc _).alloc _).alloc _)⟩

set_option maxRecDepth 100000 in
set_option maxHeartbeats 400000 in
theorem dNoneN (w : World) : Calls Tryz.prog 51 #[.pointer none] w fun e w' => e = .returned (.bool true) ∧ w = w' := by
  go_enter Tryz.func51, Tryz.ntmps51
  go_wp2
  go_ret
  exact ⟨rfl, rfl⟩
set_option maxRecDepth 100000 in
set_option maxHeartbeats 400000 in
theorem dNone5 (w : World) (pd : Nat) (h : Five w pd) : Calls Tryz.prog 51 #[.pointer (some ⟨pd, 0, none⟩)] w fun e w' => e = .returned (.bool false) ∧ w = w' := by
  obtain ⟨A, c, m, h1, h2⟩ := h
  have he := ueq_cache
  go_enter Tryz.func51, Tryz.ntmps51
  go_wp2
  go_ret
  exact ⟨rfl, rfl⟩
set_option maxRecDepth 100000 in
set_option maxHeartbeats 400000 in
theorem dLenN (w : World) : Calls Tryz.prog 27 #[.pointer none] w fun e w' => e = .returned (.int .i64 0) ∧ w = w' := by
  have HN := Lib.hid (dNoneN w)
  go_enter Tryz.func27, Tryz.ntmps27
  go_wp2_with fail
  refine HN.out.mono ?_
  rintro e w' ⟨rfl, rfl⟩
  go_wp2
  go_ret
  exact ⟨rfl, rfl⟩
set_option maxRecDepth 100000 in
set_option maxHeartbeats 400000 in
theorem dLen5 (w : World) (pd : Nat) (h : Five w pd) : Calls Tryz.prog 27 #[.pointer (some ⟨pd, 0, none⟩)] w fun e w' => e = .returned (.int .i64 5) ∧ w = w' := by
  have HN := Lib.hid (dNone5 w pd h)
  obtain ⟨A, c, m, h1, h2⟩ := h
  go_enter Tryz.func27, Tryz.ntmps27
  go_wp2_with fail
  refine HN.out.mono ?_
  rintro e w' ⟨rfl, rfl⟩
  go_wp2
  go_ret
  exact ⟨rfl, rfl⟩

set_option maxRecDepth 100000 in
set_option maxHeartbeats 400000 in
theorem uNewN (s : Int) (w : World) : Calls Tryz.prog 12 #[.pointer none, .int .i64 s] w fun e w' => e = .returned (.tuple #[.pointer none, .int .i64 1]) ∧ w = w' := by
  have HN := Lib.hid (dLenN w)
  go_enter Tryz.func12, Tryz.ntmps12
  go_wp2_with fail
  refine HN.out.mono ?_
  rintro e w' ⟨rfl, rfl⟩
  go_wp2
  go_ret2
  exact ⟨rfl, rfl⟩
set_option maxRecDepth 100000 in
set_option maxHeartbeats 400000 in
theorem uNewBad (s : Int) (pd : Nat) (w : World) (h : Five w pd) (hs : s < 0 ∨ 1 < s) : Calls Tryz.prog 12 #[.pointer (some ⟨pd, 0, none⟩), .int .i64 s] w fun e w' => e = .returned (.tuple #[.pointer none, .int .i64 2]) ∧ w = w' := by
  have HN := Lib.hid (dLen5 w pd h)
  by_cases h0 : s < 0
  · have hd : decide (s < 0) = true := by simpa using h0
    clear hs h
    go_enter Tryz.func12, Tryz.ntmps12
    go_wp2_with fail
    refine HN.out.mono ?_
    rintro e w' ⟨rfl, rfl⟩
    go_wp2
    go_ret2
    exact ⟨rfl, rfl⟩
  · have hd : decide (s < 0) = false := by simpa using h0
    have hd2 : decide (1 < s) = true := by simp; omega
    clear hs h
    go_enter Tryz.func12, Tryz.ntmps12
    go_wp2_with fail
    refine HN.out.mono ?_
    rintro e w' ⟨rfl, rfl⟩
    go_wp2
    go_ret2
    exact ⟨rfl, rfl⟩
set_option maxRecDepth 100000 in
set_option maxHeartbeats 400000 in
theorem uNewOk (s : Int) (pd : Nat) (w : World) (h : Five w pd) (hs0 : 0 ≤ s) (hs1 : s ≤ 1) : Calls Tryz.prog 12 #[.pointer (some ⟨pd, 0, none⟩), .int .i64 s] w fun e w' => ∃ b, e = .returned (.tuple #[.pointer (some ⟨b, 0, none⟩), .int .i64 0]) ∧ w'.cell? ⟨b, 0, none⟩ = some (.pointer (some ⟨pd, 0, none⟩)) ∧ w'.cell? ⟨b, 1, none⟩ = some (.int .i64 s) ∧ Chg Non w w' := by
  have HN := Lib.hid (dLen5 w pd h)
  have hd : decide (s < 0) = false := by simp; omega
  have hd2 : decide (1 < s) = false := by simp; omega
  clear hs0 hs1 h
  go_enter Tryz.func12, Tryz.ntmps12
  go_wp2_with fail
  refine HN.out.mono ?_
  rintro e w' ⟨rfl, rfl⟩
  go_wp2
  go_ret2
  exact ⟨w.heap.size, rfl, by go_simp, by go_simp, (Chg.refl _ _).alloc _⟩
set_option maxRecDepth 100000 in
set_option maxHeartbeats 400000 in
theorem sNone2 (b pd : Nat) (w : World) (h : w.cell? ⟨b, 0, none⟩ = some (.pointer (some ⟨pd, 0, none⟩))) :
    Calls Tryz.prog 17 #[.pointer (some ⟨b, 0, none⟩)] w fun e w' => e = .returned (.bool false) ∧ w = w' := by
  go_enter Tryz.func17, Tryz.ntmps17
  go_wp2
  go_ret
  exact ⟨rfl, rfl⟩
set_option maxRecDepth 100000 in
set_option maxHeartbeats 400000 in
theorem sSlot2 (b pd : Nat) (s : Int) (w : World) (h : w.cell? ⟨b, 0, none⟩ = some (.pointer (some ⟨pd, 0, none⟩))) (h1 : w.cell? ⟨b, 1, none⟩ = some (.int .i64 s)) :
    Calls Tryz.prog 10 #[.pointer (some ⟨b, 0, none⟩)] w fun e w' => e = .returned (.int .i64 s) ∧ w = w' := by
  have HN := Lib.hid (sNone2 b pd w h)
  go_enter Tryz.func10, Tryz.ntmps10
  go_wp2_with fail
  refine HN.out.mono ?_
  rintro e w' ⟨rfl, rfl⟩
  go_wp2
  go_ret
  exact ⟨rfl, rfl⟩
end Go.Proofs.YtlpfepniabdpjaaGreat
