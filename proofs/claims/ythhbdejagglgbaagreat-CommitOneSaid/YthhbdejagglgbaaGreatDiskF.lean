/- Walks of the disk: Flush, Crash. -/
import Derived.Test.YthhbdejagglgbaaGreatDiskO
namespace Go.Proofs.YthhbdejagglgbaaGreat
open Go.RowKit
set_option linter.unusedVariables false

set_option maxRecDepth 100000 in
set_option maxHeartbeats 2000000 in
theorem Flush1_any (pd ps pm p1 : Nat) (D : Dk) (w : World) (h : IsD w pd ps pm D) (h1 : w.cell? ⟨p1, 0, none⟩ = some (.pointer (some ⟨pd, 0, none⟩))) :
    Calls Tryz.prog 63 #[.pointer (some ⟨p1, 0, none⟩)] w fun e w' => e = .returned (.tuple #[]) ∧ IsD w' pd ps pm (D.spill fun _ => true) ∧ Chg (DS pd ps pm) w w' := by
  have HS := Lib.hid (spill_all pd ps pm D w h)
  clear h
  go_enter Tryz.func63, Tryz.ntmps63
  go_wp2_with fail
  refine HS.out.mono ?_
  rintro e w1 ⟨rfl, h1, hg1⟩
  go_wp2
  go_end0
  exact ⟨rfl, h1, hg1⟩

set_option maxRecDepth 100000 in
set_option maxHeartbeats 2000000 in
theorem Flush_any (pd ps pm : Nat) (D : Dk) (w : World) (h : IsD w pd ps pm D) (hsz : D.Sz) :
    Calls Tryz.prog 31 #[.pointer (some ⟨pd, 0, none⟩)] w fun e w' => e = .returned (.int .i64 D.flush.2) ∧ IsD w' pd ps pm D.flush.1 ∧ Chg (DS pd ps pm) w w' := by
  have hlt := h.lt
  obtain ⟨W0, hW0⟩ : ∃ W0, w.alloc (.cells #[.pointer (some ⟨pd, 0, none⟩)] 26) = W0 := ⟨_, rfl⟩
  have hg0 : Chg Non w W0 := by rw [← hW0]; exact (Chg.refl _ _).alloc _
  have x0 : W0.cell? ⟨w.heap.size, 0, none⟩ = some (.pointer (some ⟨pd, 0, none⟩)) := by rw [← hW0, cell_of_row _ _ _ _ _ _ (heap_alloc_new _ _)]; rfl
  have h0 := h.non hg0
  have hrd := ready_ok pd ps pm D W0 h0
  have HW0 := Lib.hid hW0
  clear hW0 h
  unfold Dk.flush
  cases hup : D.up with
  | false =>
    have hr1 : D.ready = 60 := by unfold Dk.ready; rw [hup]; rfl
    rw [hr1] at hrd
    have HR := Lib.hid hrd
    have H0 := Lib.hid h0
    clear hrd hr1 h0 hup
    simp only [if_true]
    go_enter Tryz.func31, Tryz.ntmps31
    go_wp2_with fail
    rw [HW0.out]
    refine HR.out.mono ?_
    rintro e w' ⟨rfl, rfl⟩
    go_wp2
    go_ret
    exact ⟨rfl, H0.out, hg0.of_non⟩
  | true =>
    have hr1 : D.ready = 0 := by unfold Dk.ready; rw [hup]; rfl
    rw [hr1] at hrd
    have HR := Lib.hid hrd
    have H0 := Lib.hid h0
    clear hrd hr1 h0 hup
    simp only [Bool.true_eq_false, if_false]
    unfold Dk.operate
    by_cases hle : D.left = 1
    · simp only [hle, if_true]
      have HO := Lib.hid (fun fv => operate_falls pd ps pm D fv W0 H0.out hle hsz.stay)
      clear hle
      go_enter Tryz.func31, Tryz.ntmps31
      go_wp2_with fail
      rw [HW0.out]
      refine HR.out.mono ?_
      rintro e w' ⟨rfl, rfl⟩
      go_wp2_with fail
      refine (HO.out _).mono ?_
      rintro e w1 ⟨rfl, h1, hg1⟩
      go_wp2
      go_ret
      exact ⟨rfl, h1, hg0.non_then hg1⟩
    · simp only [hle, if_false]
      have HO := Lib.hid (operate_goes pd ps pm D (Dk.spill { D with left := max (D.left - 1) 0 } fun _ => true) 63 #[.pointer (some ⟨w.heap.size, 0, none⟩)] W0 H0.out hle hsz.left
        (.func (.func 63) #[] #[.pointer (some ⟨w.heap.size, 0, none⟩)]) (.inr ⟨rfl, rfl⟩)
        (fun W hW hgW => Flush1_any pd ps pm w.heap.size { D with left := max (D.left - 1) 0 } W hW (hgW.cell_some x0 (by show w.heap.size ≠ pd; omega))))
      clear hle
      go_enter Tryz.func31, Tryz.ntmps31
      go_wp2_with fail
      rw [HW0.out]
      refine HR.out.mono ?_
      rintro e w' ⟨rfl, rfl⟩
      go_wp2_with fail
      refine HO.out.mono ?_
      rintro e w1 ⟨rfl, h1, hg1⟩
      go_wp2
      go_ret
      exact ⟨rfl, h1, hg0.non_then hg1⟩

set_option maxRecDepth 100000 in
set_option maxHeartbeats 2000000 in
theorem Crash_any (pd ps pm : Nat) (D : Dk) (B : Option Addr) (m : List UInt8) (cm : Nat) (w : World) (h : IsD w pd ps pm D) (hBm : Rd w B m) (hBn : ∀ b o, B = some ⟨b, o, none⟩ → m ≠ [] → ¬ DS pd ps pm b) (hml : m.length ≤ 1000000) :
    Calls Tryz.prog 41 #[.pointer (some ⟨pd, 0, none⟩), .slice B m.length cm] w fun e w' => e = .returned (.int .i64 (D.crash m).2) ∧ IsD w' pd ps pm (D.crash m).1 ∧ Chg (DS pd ps pm) w w' := by
  have hrd := ready_ok pd ps pm D w h
  have HF := Lib.hid (fall_any pd ps pm D B m cm w h hBm hBn hml)
  have HD := Lib.hid h
  clear h
  unfold Dk.crash
  cases hup : D.up with
  | false =>
    have hr1 : D.ready = 60 := by unfold Dk.ready; rw [hup]; rfl
    rw [hr1] at hrd
    have HR := Lib.hid hrd
    clear hrd hr1 hup
    simp only [if_true]
    go_enter Tryz.func41, Tryz.ntmps41
    go_wp2_with fail
    refine HR.out.mono ?_
    rintro e w' ⟨rfl, rfl⟩
    go_wp2
    go_ret
    exact ⟨rfl, HD.out, Chg.refl _ _⟩
  | true =>
    have hr1 : D.ready = 0 := by unfold Dk.ready; rw [hup]; rfl
    rw [hr1] at hrd
    have HR := Lib.hid hrd
    clear hrd hr1 hup
    simp only [Bool.true_eq_false, if_false]
    go_enter Tryz.func41, Tryz.ntmps41
    go_wp2_with fail
    refine HR.out.mono ?_
    rintro e w' ⟨rfl, rfl⟩
    go_wp2_with fail
    refine HF.out.mono ?_
    rintro e w1 ⟨rfl, h1, hg1⟩
    go_wp2
    go_ret
    exact ⟨rfl, h1, hg1⟩
end Go.Proofs.YthhbdejagglgbaaGreat
