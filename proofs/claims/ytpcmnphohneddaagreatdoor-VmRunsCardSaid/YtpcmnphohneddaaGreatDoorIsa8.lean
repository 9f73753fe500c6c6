/- Walks of package isa: the closure of Parse. -/
import Derived.Test.YtpcmnphohneddaaGreatDoorIsa7
import Derived.Lib.AtoiAllCases
import Derived.Lib.AtoiErrMem
namespace Go.Proofs.YtpcmnphohneddaaGreatDoor
open Go.RowKit
set_option linter.unusedVariables false

theorem atoi_any (l : List UInt8) (w : World) (hE : Env w) (hl : l.length ≤ 1000000) :
    Calls Tryz.prog 73 #[.string ⟨l.toArray⟩] w fun e w' => (∃ ev, e = .returned (.tuple #[.int .i64 (atoiV l), ev])) ∧ Chg Non w w' := by
  have hs : (⟨l.toArray⟩ : ByteArray).size = l.length := by simp [ByteArray.size]
  have hd : (⟨l.toArray⟩ : ByteArray).data.toList = l := by simp
  unfold atoiV
  rcases h : Lib.atoiAll l with v | _ | _
  · refine (Tryz.strconv_Atoi_ok ⟨l.toArray⟩ (by omega) v (by rw [hd]; exact h) w).mono fun e w' ⟨he, hw⟩ => ⟨⟨_, he⟩, ?_⟩
    rcases hw with rfl | ⟨t, rfl⟩
    · exact Chg.refl _ _
    · exact Chg.of_below (Lib.bytesWorld_below _ _ _) (Nat.le_refl _)
  · obtain ⟨ev, hv, hev⟩ := hE.syn
    refine (Any.strconv_Atoi_syntax Tryz.laysC172 ⟨l.toArray⟩ (by omega) (by rw [hd]; exact h) ev w hv hev).mono fun e w' ⟨N, he, _, _, hb⟩ => ⟨⟨_, he⟩, Chg.of_below hb (Nat.le_refl _)⟩
  · obtain ⟨ev, hv, hev⟩ := hE.rng
    refine (Tryz.strconv_Atoi_range ⟨l.toArray⟩ (by omega) (by rw [hd]; exact h) ev w hv hev).mono fun e w' ⟨N, he, _, _, hb⟩ => ⟨⟨_, he⟩, Chg.of_below hb (Nat.le_refl _)⟩

theorem atoiV_bd (l : List UInt8) : -9223372036854775808 ≤ atoiV l ∧ atoiV l ≤ 9223372036854775807 := by
  unfold atoiV
  rcases h : Lib.atoiAll l with v | _ | _
  · have := Lib.atoiAll_bounds h
    simp only; omega
  · simp
  · simp only [Lib.atoiSat]
    split <;> simp

/-- the words that are left -/
structure Rst (w : World) (pr : Nat) (r : List (List UInt8)) : Prop where
  row : ∃ A c, w.heap[pr]? = some (.cells #[.slice A r.length c] 61 (0, 0)) ∧ RdS w A r ∧ r.length ≤ c ∧ c ≤ 140737488355328 ∧ ∀ b o, A = some ⟨b, o, none⟩ → b ≠ pr
  len : ∀ x ∈ r, x.length ≤ 1000000
theorem RdS.keep {S : Nat → Prop} {w w' : World} {A : Option Addr} {l : List (List UInt8)} (h : RdS w A l) (hg : Chg S w w') (hn : ∀ b o, A = some ⟨b, o, none⟩ → ¬ S b) : RdS w' A l := fun i x hx => by
  obtain ⟨b, o, e, hc⟩ := h i x hx
  exact ⟨b, o, e, hg.cell_some hc (hn b o e)⟩
theorem Rst.non {w w' : World} {pr : Nat} {r : List (List UInt8)} (h : Rst w pr r) (hg : Chg Non w w') : Rst w' pr r := by
  obtain ⟨⟨A, c, h1, h2, h3, h4, h5⟩, h6⟩ := h
  exact ⟨⟨A, c, blockN hg h1, h2.non hg, h3, h4, h5⟩, h6⟩
theorem Rst.lt {w : World} {pr : Nat} {r : List (List UInt8)} (h : Rst w pr r) : pr < w.heap.size := by
  obtain ⟨⟨A, c, h1, _⟩, _⟩ := h
  exact (Array.getElem?_eq_some_iff.1 h1).1

set_option maxRecDepth 100000 in
set_option maxHeartbeats 2000000 in
theorem take_not (p : Option Addr) (w : World) :
    Calls Tryz.prog 72 #[.bool false, .pointer p] w fun e w' => e = .returned (.int .i64 0) ∧ w = w' := by
  go_enter Tryz.func72, Tryz.ntmps72
  go_wp2
  go_ret
  exact ⟨rfl, rfl⟩

set_option maxRecDepth 100000 in
set_option maxHeartbeats 2000000 in
theorem take_nil (pr : Nat) (w : World) (h : Rst w pr []) :
    Calls Tryz.prog 72 #[.bool true, .pointer (some ⟨pr, 0, none⟩)] w fun e w' => e = .returned (.int .i64 0) ∧ w = w' := by
  obtain ⟨⟨A, c, h1, _⟩, _⟩ := h
  have hc := cell_of_one h1
  clear h1
  go_enter Tryz.func72, Tryz.ntmps72
  go_wp2
  go_ret
  exact ⟨rfl, rfl⟩

set_option maxRecDepth 100000 in
set_option maxHeartbeats 2000000 in
theorem take_cons (pr : Nat) (x : List UInt8) (r : List (List UInt8)) (w : World) (hE : Env w) (h : Rst w pr (x :: r)) :
    Calls Tryz.prog 72 #[.bool true, .pointer (some ⟨pr, 0, none⟩)] w fun e w' => e = .returned (.int .i64 (atoiV x)) ∧ Rst w' pr r ∧ Chg (fun k => k = pr) w w' := by
  have hbx := atoiV_bd x
  have HA := Lib.hid (atoi_any x w hE (h.len x (by simp)))
  obtain ⟨⟨A, c, h1, h2, h3, h4, h5⟩, h6⟩ := h
  obtain ⟨b, o, rfl, hc0⟩ := h2 0 x rfl
  have hcp := cell_of_one h1
  have hpr : pr < w.heap.size := (Array.getElem?_eq_some_iff.1 h1).1
  have hb := lt_of_cell hc0
  have hbn := h5 b o rfl
  rw [Nat.add_zero] at hc0
  simp only at hb
  obtain ⟨m, hm⟩ : ∃ m, r.length = m := ⟨_, rfl⟩
  have hlen : (x :: r).length = m + 1 := by simp [hm]
  rw [hlen] at h1 hcp h3
  have H1 := Lib.hid h1
  have H2 := Lib.hid h2
  have H6 := Lib.hid h6
  have HM := Lib.hid hm
  have hst : mkStr x = .string ⟨x.toArray⟩ := rfl
  rw [hst] at hc0
  clear h1 h2 h6 h5 hm hlen hst hE
  obtain ⟨V, hV⟩ : ∃ V, atoiV x = V := ⟨_, rfl⟩
  rw [hV] at HA hbx ⊢
  clear hV
  go_enter Tryz.func72, Tryz.ntmps72
  go_wp2_with fail
  refine HA.out.mono ?_
  rintro e w1 ⟨⟨ev, rfl⟩, hg⟩
  have HG := Lib.hid hg
  have hcp1 := cell_of_one (blockN hg H1.out)
  have hfp1 := free_of_one (blockN hg H1.out)
  clear hg
  go_wp2_with fail
  · subst h
    go_ret
    have h0 : r = [] := by
      have := HM.out
      exact List.eq_nil_of_length_eq_zero (by omega)
    subst h0
    have hm0 : m = 0 := by have := HM.out; simpa using this.symm
    subst hm0
    refine ⟨rfl, ⟨⟨some ⟨b, o, none⟩, 0, ?_, fun i x hx => by simp at hx, by simp, by omega, ?_⟩, fun x hx => by simp at hx⟩, (Chg.of_non (S := fun k => k = pr) HG.out).setCell (p := ⟨pr, 0, none⟩) (.inl rfl) _⟩
    · exact heap_setCell1 _ (blockN HG.out H1.out)
    · intro b' o' e
      injection e with e
      injection e with e1 e2
      subst e1
      exact hbn
  · go_ret
    have hk : Chg (fun k => k = pr) w (w1.setCell ⟨pr, 0, none⟩ (.slice (some ⟨b, o + 1, none⟩) m (c - 1))) := (Chg.of_non (S := fun k => k = pr) HG.out).setCell (p := ⟨pr, 0, none⟩) (.inl rfl) _
    refine ⟨rfl, ⟨⟨some ⟨b, o + 1, none⟩, c - 1, ?_, ?_, by have := HM.out; omega, by omega, ?_⟩, fun x hx => H6.out x (by simp [hx])⟩, hk⟩
    · rw [HM.out]; exact heap_setCell1 _ (blockN HG.out H1.out)
    · intro i y hy
      obtain ⟨b', o', e, hci⟩ := H2.out (i + 1) y (by simpa using hy)
      injection e with e
      injection e with e1 e2
      subst e1 e2
      exact ⟨b, o + 1, rfl, hk.cell_some (by rw [Nat.add_assoc, Nat.add_comm 1 i]; exact hci) hbn⟩
    · intro b' o' e
      injection e with e
      injection e with e1 e2
      subst e1
      exact hbn

/-- a word taken, or none -/
theorem take_any (has : Bool) (pr : Nat) (r : List (List UInt8)) (w : World) (hE : Env w) (h : Rst w pr r) :
    Calls Tryz.prog 72 #[.bool has, .pointer (some ⟨pr, 0, none⟩)] w fun e w' => e = .returned (.int .i64 (takeV has r)) ∧ Rst w' pr (takeR has r) ∧ Chg (fun k => k = pr) w w' := by
  cases has with
  | false =>
    refine (take_not _ w).mono fun e w' ⟨he, hw⟩ => ?_
    subst hw
    exact ⟨by simpa [takeV] using he, by simpa [takeR] using h, Chg.refl _ _⟩
  | true =>
    cases r with
    | nil =>
      refine (take_nil pr w h).mono fun e w' ⟨he, hw⟩ => ?_
      subst hw
      exact ⟨by simpa [takeV] using he, by simpa [takeR] using h, Chg.refl _ _⟩
    | cons x r =>
      refine (take_cons pr x r w hE h).mono fun e w' ⟨he, h1, h2⟩ => ?_
      exact ⟨he, h1, h2⟩
theorem takeV_bd (has : Bool) (r : List (List UInt8)) : -9223372036854775808 ≤ takeV has r ∧ takeV has r ≤ 9223372036854775807 := by
  unfold takeV
  split
  · exact atoiV_bd _
  · omega
end Go.Proofs.YtpcmnphohneddaaGreatDoor
