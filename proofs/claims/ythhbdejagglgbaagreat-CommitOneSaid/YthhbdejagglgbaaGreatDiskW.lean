/- Walks of the disk: Start, Arm; spill, fall; operate; Write, Flush, Crash. -/
import Derived.Test.YthhbdejagglgbaaGreatDiskR
namespace Go.Proofs.YthhbdejagglgbaaGreat
open Go.RowKit
set_option linter.unusedVariables false

theorem chg_field {w : World} {pd ps pm i : Nat} {v : Value} : Chg (DS pd ps pm) w (w.setCell ⟨pd, i, none⟩ v) := (Chg.refl (DS pd ps pm) _).setCell (p := ⟨pd, i, none⟩) (.inl (.inl rfl)) _

/-- a store of what stays -/
theorem IsD.setStay {w : World} {pd ps pm c1 : Nat} {D : Dk} {A1 : Option Addr} {l : List UInt8} (h : IsD w pd ps pm D) (hr : Rd w A1 l) (hne : ∀ b o, A1 = some ⟨b, o, none⟩ → l ≠ [] → b ≠ ps) (hc : l.length ≤ c1) (hm : c1 ≤ maxLen) :
    IsD (w.setCell ⟨pd, 4, none⟩ (.slice A1 l.length c1)) pd ps pm { D with stay := l } := by
  have hn := h.ne
  obtain ⟨hok, A, c, h1, h2, h3, h4, h5, h6, h7⟩ := h
  have hg : Chg (fun k => k = pd) w (w.setCell ⟨pd, 4, none⟩ (.slice A1 l.length c1)) := (Chg.refl (fun k => k = pd) _).setCell (p := ⟨pd, 4, none⟩) (.inl rfl) _
  refine ⟨⟨hok.secs, hok.keys, hok.nodup, hok.most, hok.left0⟩, A1, c1, ?_, ?_, ?_, ?_, hne, hc, hm⟩
  · rw [heap_setCell_same _ _ _ _ _ _ h1]; rfl
  · exact (hg.block ps (Array.getElem?_eq_some_iff.1 h2).1 (Ne.symm hn.1)).trans h2
  · exact h3.keep hg (Ne.symm hn.2.1)
  · exact hr.keep hg (fun b o e hne' => (stay_ne h1 h3 hr b o e hne').1)

set_option maxRecDepth 100000 in
set_option maxHeartbeats 2000000 in
theorem Start_any (pd ps pm : Nat) (D : Dk) (w : World) (h : IsD w pd ps pm D) :
    Calls Tryz.prog 19 #[.pointer (some ⟨pd, 0, none⟩)] w fun e w' => e = .returned (.int .i64 D.start.2) ∧ IsD w' pd ps pm D.start.1 ∧ Chg (DS pd ps pm) w w' := by
  obtain ⟨A, c, h0, _⟩ := h.cells
  have f0 := h.free 0
  have HN := Lib.hid (dnone_ok pd ps pm D w h)
  have HD := Lib.hid h
  unfold Dk.start
  cases hu : D.up with
  | true =>
    rw [hu] at h0
    have HU := Lib.hid hu
    clear hu h
    simp only [if_true]
    go_enter Tryz.func19, Tryz.ntmps19
    go_wp2_with fail
    refine HN.out.mono ?_
    rintro e w' ⟨rfl, rfl⟩
    go_wp2
    go_ret
    exact ⟨rfl, HD.out, Chg.refl _ _⟩
  | false =>
    rw [hu] at h0
    have HU := Lib.hid hu
    clear hu h
    simp only [Bool.false_eq_true, if_false]
    go_enter Tryz.func19, Tryz.ntmps19
    go_wp2_with fail
    refine HN.out.mono ?_
    rintro e w' ⟨rfl, rfl⟩
    go_wp2
    go_ret
    have hok := HD.out.1
    exact ⟨rfl, HD.out.set 0 (.bool true) rfl rfl rfl ⟨hok.secs, hok.keys, hok.nodup, hok.most, hok.left0⟩ (fun A c => rfl), chg_field⟩

set_option maxRecDepth 100000 in
set_option maxHeartbeats 2000000 in
theorem Arm_up (pd ps pm : Nat) (D : Dk) (n : Int) (B : Option Addr) (l : List UInt8) (cb : Nat) (w : World) (h : IsD w pd ps pm D) (hup : D.up = true) (hr : Rd w B l) (hl : l.length ≤ 1000000) (hn : 1 ≤ n) :
    Calls Tryz.prog 17 #[.pointer (some ⟨pd, 0, none⟩), .int .i64 n, .slice B l.length cb] w fun e w' => e = .returned (.int .i64 0) ∧ IsD w' pd ps pm { D with left := n, stay := l } ∧ Chg (DS pd ps pm) w w' := by
  have hrd := ready_ok pd ps pm D w h
  have hr1 : D.ready = 0 := by unfold Dk.ready; rw [hup]; rfl
  rw [hr1] at hrd
  have HR := Lib.hid hrd
  clear hrd hr1
  have HD := Lib.hid h
  have HC := Lib.hid (Clone_any B l cb w hr (by omega))
  have hlt := h.lt
  clear h hr
  go_enter Tryz.func17, Tryz.ntmps17
  go_wp2_with fail
  refine HR.out.mono ?_
  rintro e w' ⟨rfl, rfl⟩
  go_wp2_with fail
  refine HC.out.mono ?_
  rintro e w1 ⟨A1, c1, rfl, hc1, hm1, ho1, hg1⟩
  have h1 := HD.out.non hg1
  obtain ⟨A, c, _, _, _, k3, k4, _⟩ := h1.cells
  have f3 := h1.free 3
  have f4 := h1.free 4
  have H1 := Lib.hid h1
  clear h1
  go_wp2
  go_ret
  have hD := H1.out
  have hok := hD.1
  have hs1 := hD.set 3 (.int .i64 n) (D' := { D with left := n }) rfl rfl rfl ⟨hok.secs, hok.keys, hok.nodup, hok.most, by show 0 ≤ n; omega⟩ (fun A c => rfl)
  have hgs : Chg (fun k => k = pd) w1 (w1.setCell ⟨pd, 3, none⟩ (.int .i64 n)) := (Chg.refl (fun k => k = pd) _).setCell (p := ⟨pd, 3, none⟩) (.inl rfl) _
  have hge : ∀ b o, A1 = some ⟨b, o, none⟩ → l ≠ [] → w.heap.size ≤ b := by
    rintro b o rfl hne
    exact ho1.ge hne
  have hs2 := hs1.setStay (A1 := A1) (l := l) (c1 := c1) (ho1.rd.keep hgs (fun b o e hne e' => by have := hge b o e hne; omega)) (fun b o e hne e' => by have := hge b o e hne; omega) hc1 hm1
  exact ⟨rfl, hs2, (hg1.non_then chg_field).trans_same chg_field⟩

theorem arm_eq {D : Dk} {n : Int} {l : List UInt8} (hup : D.up = true) (hn : 1 ≤ n) : D.arm n l = ({ D with left := n, stay := l }, 0) := by
  unfold Dk.arm
  rw [hup]
  simp
  omega
end Go.Proofs.YthhbdejagglgbaaGreat
