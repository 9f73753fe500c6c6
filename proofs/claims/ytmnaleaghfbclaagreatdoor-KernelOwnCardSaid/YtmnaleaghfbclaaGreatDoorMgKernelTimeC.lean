/- KernelTime, part 3 of 28: contracts of the functions that it reaches, and the laws that they need, merged and shortened (from my texts XIsa7, XIsa8, XIsaT). -/
import Derived.Test.YtmnaleaghfbclaaGreatDoorMgKernelTimeA
import Derived.Test.YtmnaleaghfbclaaGreatDoorMgKernelTimeB
import Derived.Lib.ItoaLen
import Derived.Lib.AtoiAllCases
import Derived.Lib.AtoiErrMem
import Derived.Lib.ItoaMem
import Derived.Lib.SplitLaws
namespace Go.Proofs.YtmnaleaghfbclaaGreatDoor
set_option linter.unusedVariables false
set_option linter.unusedSimpArgs false
set_option maxHeartbeats 8000000
section
open Go.RowKit
theorem wds_start (w : World) (name : List UInt8) : Wds w ((w.alloc (.cells #[.string ⟨name.toArray⟩] 9)).alloc (.cells #[.slice (some ⟨w.heap.size, 0, none⟩) 1 1] 100)) (w.heap.size + 1) [name] := by
 refine ⟨((Chg.refl Non _).alloc _).alloc _, by omega, ⟨.slice (some ⟨w.heap.size, 0, none⟩) 1 1, ?_, ?_, ?_⟩, by simp⟩
 ·rw [show w.heap.size + 1 = (w.alloc (.cells #[.string ⟨name.toArray⟩] 9)).heap.size by simp, heap_alloc_new]
 ·refine ⟨by simp, .inr ⟨w.heap.size, 1, #[mkStr name], rfl, Nat.le_refl _, ?_, by simp, by unfold maxLen; omega, rfl, rfl⟩⟩
  rw [Below.heap_alloc _ _ _ (by simp), heap_alloc_new]
  rfl
 ·simp [Value.ownBlock]
theorem wordIf_len (h : Bool) (n : Int) : (wordIf h n).length ≤ 1 := by unfold wordIf; split <;> simp
theorem wordIf_bd (h : Bool) (n : Int) (x : List UInt8) (hx : x ∈ wordIf h n) (h0 : -9223372036854775808 ≤ n) (h1 : n ≤ 9223372036854775807) : x.length ≤ 21 := by
 unfold wordIf at hx
 split at hx
 ·simp only [List.mem_singleton] at hx
  subst hx
  exact Lib.itoa_length_le n h0 h1
 ·simp at hx
theorem join_small (l : List (List UInt8)) (h : ∀ x ∈ l, x.length ≤ 1000) (hl : l.length ≤ 100) : (Lib.join l [32]).length ≤ 200000 := by
 cases l with
 | nil => simp [Lib.join_nil]
 | cons x r =>
  rw [Lib.join_length]
  have key : ∀ (m : List (List UInt8)), (∀ x ∈ m, x.length ≤ 1000) → Lib.lens m ≤ 1000 * m.length := by
   intro m
   induction m with
   | nil => intro _; simp [Lib.lens]
   | cons y s ih =>
    intro h
    have h1 := h y (by simp)
    have h2 := ih (fun x hx => h x (by simp [hx]))
    simp [Lib.lens] at h2 ⊢
    omega
  have := key (x :: r) h
  simp at hl this ⊢
  omega
theorem opAt_name_len (k : Nat) : (opAt k).name.length ≤ 5 := by
 rcases Nat.lt_or_ge k 22 with h | h
 ·revert k; decide
 ·rw [opAt_big k h]; decide
set_option maxRecDepth 100000 in
theorem Text_ok (x : Ins) (w : World) (hE : Env w) (hm : mayB x = true) :
  Calls Tryz.prog 117 #[.agg #[.int .u8 x.op, .int .u8 x.a, .int .u8 x.b, .int .u8 x.c, .int .i64 x.n]] w fun e w' => e = .returned (mkStr (Lib.join (textW x) [32])) ∧ Chg Non w w' := by
 have HM := Lib.hid (fun w => May_ok x w)
 rw [hm] at HM
 have hbd := May.bd hm
 obtain ⟨op, a, b, c, n⟩ := x
 have HO := Lib.hid (fun w => of_any op w)
 simp only at HM
 have hw : textW ⟨op, a, b, c, n⟩ = (opAt op).name :: (wordIf (opAt op).a a ++ (wordIf (opAt op).b b ++ (wordIf (opAt op).c c ++ wordIf (decide (0 < (opAt op).n)) n))) := rfl
 rw [hw]
 clear hw hm
 obtain ⟨F, hF⟩ : ∃ F, opAt op = F := ⟨_, rfl⟩
 have hnm := opAt_name_len op
 rw [hF] at HO hnm ⊢
 clear hF
 have hop : opC F = #[.string ⟨F.name.toArray⟩, .bool F.a, .bool F.b, .bool F.c, .int .i64 F.n] := rfl
 rw [hop] at HO
 clear hop
 obtain ⟨b1, b2, b3, b4, b5, b6⟩ := hbd
 simp only at b1 b2 b3 b4 b5 b6
 have HEn := Lib.hid hE
 clear hE
 go_enter Tryz.func117, Tryz.ntmps117
 go_wp2_with fail
 refine (HO.out _).mono ?_
 rintro e w1 ⟨rfl, hg⟩
 have HC := Lib.hid (cells5A w w1 _ _ _ _ _ _ hg)
 have HG : Hid (Chg Non w w1) := Lib.hid (((Chg.refl Non w).alloc _).then_non hg)
 clear hg
 obtain ⟨hz, c0, c1, c2, c3, c4⟩ := HC.out
 go_wp2_with fail
 refine (HM.out _).mono ?_
 rintro e w2 ⟨rfl, hg⟩
 have HC2 := Lib.hid ((HC.out.non ((Chg.refl Non _).alloc _)).non hg)
 have HD2 := Lib.hid (cells5A w1 w2 _ _ _ _ _ _ hg)
 have HG2 : Hid (Chg Non w w2) := Lib.hid ((HG.out.alloc _).then_non hg)
 clear hz c0 c1 c2 c3 c4 hg HC HG
 obtain ⟨hz, c0, c1, c2, c3, c4⟩ := HC2.out
 obtain ⟨dz, d0, d1, d2, d3, d4⟩ := HD2.out
 have HW := Lib.hid (wds_start w2 F.name)
 have HE2 : Hid (Env w2) := Lib.hid (HEn.out.non HG2.out)
 go_wp2_with fail
 refine (add_any w2 _ _ _ F.a a HE2.out HW.out (by omega) (by omega) (by simp)).mono ?_
 rintro e w3 ⟨rfl, hW3⟩
 have HW := Lib.hid hW3
 clear hz c0 c1 c2 c3 c4 dz d0 d1 d2 d3 d4 hW3
 obtain ⟨hz, c0, c1, c2, c3, c4⟩ := HC2.out.non HW.out.chg
 obtain ⟨dz, d0, d1, d2, d3, d4⟩ := HD2.out.non HW.out.chg
 go_wp2_with fail
 refine (add_any w2 _ _ _ (F.b) b HE2.out HW.out (by omega) (by omega) (by have h1 := wordIf_len F.a a; have h2 := wordIf_len F.b b; have h3 := wordIf_len F.c c; simp; omega)).mono ?_
 rintro e w4 ⟨rfl, hW4⟩
 have HW := Lib.hid hW4
 clear hz c0 c1 c2 c3 c4 dz d0 d1 d2 d3 d4 hW4
 obtain ⟨hz, c0, c1, c2, c3, c4⟩ := HC2.out.non HW.out.chg
 obtain ⟨dz, d0, d1, d2, d3, d4⟩ := HD2.out.non HW.out.chg
 go_wp2_with fail
 refine (add_any w2 _ _ _ (F.c) c HE2.out HW.out (by omega) (by omega) (by have h1 := wordIf_len F.a a; have h2 := wordIf_len F.b b; have h3 := wordIf_len F.c c; simp; omega)).mono ?_
 rintro e w5 ⟨rfl, hW5⟩
 have HW := Lib.hid hW5
 clear hz c0 c1 c2 c3 c4 dz d0 d1 d2 d3 d4 hW5
 obtain ⟨hz, c0, c1, c2, c3, c4⟩ := HC2.out.non HW.out.chg
 obtain ⟨dz, d0, d1, d2, d3, d4⟩ := HD2.out.non HW.out.chg
 have hdec : decide ((F.n : Int) > 0) = decide (0 < F.n) := by rw [Bool.eq_iff_iff]; simp
 go_wp2_with fail
 refine (add_any w2 _ _ _ (decide (0 < F.n)) n HE2.out HW.out (by omega) (by omega) (by have h1 := wordIf_len F.a a; have h2 := wordIf_len F.b b; have h3 := wordIf_len F.c c; simp; omega)).mono ?_
 rintro e w6 ⟨rfl, hW6⟩
 have HW := Lib.hid hW6
 clear hz c0 c1 c2 c3 c4 dz d0 d1 d2 d3 d4 hW6
 obtain ⟨L, hL⟩ : ∃ L, [F.name] ++ wordIf F.a a ++ wordIf F.b b ++ wordIf F.c c ++ wordIf (decide (0 < F.n)) n = L := ⟨_, rfl⟩
 have hbd : ∀ x ∈ L, x.length ≤ 1000 := by
  intro x hx
  rw [← hL] at hx
  simp only [List.mem_append, List.mem_singleton] at hx
  rcases hx with (((rfl | h) | h) | h) | h
  ·omega
  ·have := wordIf_bd _ _ _ h (by omega) (by omega); omega
  ·have := wordIf_bd _ _ _ h (by omega) (by omega); omega
  ·have := wordIf_bd _ _ _ h (by omega) (by omega); omega
  ·have := wordIf_bd _ _ _ h (by omega) (by omega); omega
 rw [hL] at HW
 have HJ := Lib.hid (join_small L hbd HW.out.len)
 have hne0 : L ≠ [] := by rw [← hL]; simp
 have HN0 := Lib.hid hne0
 have HL : Hid (L = F.name :: (wordIf F.a a ++ (wordIf F.b b ++ (wordIf F.c c ++ wordIf (decide (0 < F.n)) n)))) := Lib.hid (by rw [← hL]; simp)
 clear hL hbd hne0
 obtain ⟨v, hv, hown, hne⟩ := HW.out.row
 obtain ⟨A, cp, rfl, hcp, hmx, hrd⟩ := hown.rd
 have hcell := cell_of_one hv
 have HRD := Lib.hid hrd
 have HCP := Lib.hid hcp
 clear hrd hcp hown hne hv
 go_wp2_with fail
 refine (join_ok A cp L [32] w6 HRD.out HN0.out HCP.out (by have := HW.out.len; omega) (by have := HJ.out; omega)).mono ?_
 rintro e w7 ⟨rfl, hg7⟩
 rw [HL.out]
 go_wp2_with fail
 go_ret
 exact ⟨rfl, (HG2.out.then_non HW.out.chg).then_non hg7⟩
set_option maxRecDepth 100000 in
theorem Text_no (x : Ins) (w : World) (hm : mayB x = false) :
  Calls Tryz.prog 117 #[.agg #[.int .u8 x.op, .int .u8 x.a, .int .u8 x.b, .int .u8 x.c, .int .i64 x.n]] w fun e w' => e = .returned (mkStr []) ∧ Chg Non w w' := by
 have HM := Lib.hid (fun w => May_ok x w)
 rw [hm] at HM
 clear hm
 obtain ⟨op, a, b, c, n⟩ := x
 have HO := Lib.hid (fun w => of_any op w)
 simp only at HM
 obtain ⟨F, hF⟩ : ∃ F, opAt op = F := ⟨_, rfl⟩
 rw [hF] at HO
 clear hF
 have hop : opC F = #[.string ⟨F.name.toArray⟩, .bool F.a, .bool F.b, .bool F.c, .int .i64 F.n] := rfl
 rw [hop] at HO
 clear hop
 go_enter Tryz.func117, Tryz.ntmps117
 go_wp2_with fail
 refine (HO.out _).mono ?_
 rintro e w1 ⟨rfl, hg⟩
 have HC := Lib.hid (cells5A w w1 _ _ _ _ _ _ hg)
 have HG : Hid (Chg Non w w1) := Lib.hid (((Chg.refl Non w).alloc _).then_non hg)
 clear hg
 obtain ⟨hz, c0, c1, c2, c3, c4⟩ := HC.out
 go_wp2_with fail
 refine (HM.out _).mono ?_
 rintro e w2 ⟨rfl, hg⟩
 have HG2 : Hid (Chg Non w w2) := Lib.hid ((HG.out.alloc _).then_non hg)
 clear hg
 go_wp2_with fail
 go_ret
 exact ⟨rfl, HG2.out⟩
theorem Text_any (x : Ins) (w : World) (hE : Env w) :
  Calls Tryz.prog 117 #[.agg #[.int .u8 x.op, .int .u8 x.a, .int .u8 x.b, .int .u8 x.c, .int .i64 x.n]] w fun e w' => e = .returned (mkStr (textL x)) ∧ Chg Non w w' := by
 unfold textL
 cases hm : mayB x with
 | true => simpa using Text_ok x w hE hm
 | false => simpa using Text_no x w hm
set_option maxRecDepth 100000 in
theorem Name_ok (n : Nat) (w : World) :
  Calls Tryz.prog 236 #[.int .u8 n] w fun e w' => e = .returned (mkStr (opAt n).name) ∧ Chg Non w w' := by
 have HO := Lib.hid (fun w => of_any n w)
 obtain ⟨F, hF⟩ : ∃ F, opAt n = F := ⟨_, rfl⟩
 rw [hF] at HO ⊢
 clear hF
 have hop : opC F = #[.string ⟨F.name.toArray⟩, .bool F.a, .bool F.b, .bool F.c, .int .i64 F.n] := rfl
 rw [hop] at HO
 clear hop
 go_enter Tryz.func236, Tryz.ntmps236
 go_wp2_with fail
 refine (HO.out _).mono ?_
 rintro e w1 ⟨rfl, hg⟩
 go_wp2_with fail
 go_ret
 exact ⟨rfl, hg.alloc _⟩
end
section
open Go.RowKit
theorem atoi_any (l : List UInt8) (w : World) (hE : Env w) (hl : l.length ≤ 1000000) :
  Calls Tryz.prog 116 #[.string ⟨l.toArray⟩] w fun e w' => (∃ ev, e = .returned (.tuple #[.int .i64 (atoiV l), ev])) ∧ Chg Non w w' := by
 have hs : (⟨l.toArray⟩ : ByteArray).size = l.length := by simp [ByteArray.size]
 have hd : (⟨l.toArray⟩ : ByteArray).data.toList = l := by simp
 unfold atoiV
 rcases h : Lib.atoiAll l with v | _ | _
 ·refine (Tryz.strconv_Atoi_ok ⟨l.toArray⟩ (by omega) v (by rw [hd]; exact h) w).mono fun e w' ⟨he, hw⟩ => ⟨⟨_, he⟩, ?_⟩
  rcases hw with rfl | ⟨t, rfl⟩
  ·exact Chg.refl _ _
  ·exact Chg.of_below (Lib.bytesWorld_below _ _ _) (Nat.le_refl _)
 ·obtain ⟨ev, hv, hev⟩ := hE.syn
  refine (Any.strconv_Atoi_syntax Tryz.laysC172 ⟨l.toArray⟩ (by omega) (by rw [hd]; exact h) ev w hv hev).mono fun e w' ⟨N, he, _, _, hb⟩ => ⟨⟨_, he⟩, Chg.of_below hb (Nat.le_refl _)⟩
 ·obtain ⟨ev, hv, hev⟩ := hE.rng
  refine (Tryz.strconv_Atoi_range ⟨l.toArray⟩ (by omega) (by rw [hd]; exact h) ev w hv hev).mono fun e w' ⟨N, he, _, _, hb⟩ => ⟨⟨_, he⟩, Chg.of_below hb (Nat.le_refl _)⟩
theorem atoiV_bd (l : List UInt8) : -9223372036854775808 ≤ atoiV l ∧ atoiV l ≤ 9223372036854775807 := by
 unfold atoiV
 rcases h : Lib.atoiAll l with v | _ | _
 ·have := Lib.atoiAll_bounds h
  simp only; omega
 ·simp
 ·simp only [Lib.atoiSat]
  split <;> simp
structure Rst (w : World) (pr : Nat) (r : List (List UInt8)) : Prop where
 row : ∃ A c, w.heap[pr]? = some (.cells #[.slice A r.length c] 100 (0, 0)) ∧ RdS w A r ∧ r.length ≤ c ∧ c ≤ 140737488355328 ∧ ∀ b o, A = some ⟨b, o, none⟩ → b ≠ pr
 len : ∀ x ∈ r, x.length ≤ 1000000
theorem Rst.non {w w' : World} {pr : Nat} {r : List (List UInt8)} (h : Rst w pr r) (hg : Chg Non w w') : Rst w' pr r := by
 obtain ⟨⟨A, c, h1, h2, h3, h4, h5⟩, h6⟩ := h
 exact ⟨⟨A, c, blockN hg h1, h2.non hg, h3, h4, h5⟩, h6⟩
set_option maxRecDepth 100000 in
theorem take_not (p : Option Addr) (w : World) :
  Calls Tryz.prog 115 #[.bool false, .pointer p] w fun e w' => e = .returned (.int .i64 0) ∧ w = w' := by
 go_enter Tryz.func115, Tryz.ntmps115
 go_wp2
 go_ret
 exact ⟨rfl, rfl⟩
set_option maxRecDepth 100000 in
theorem take_nil (pr : Nat) (w : World) (h : Rst w pr []) :
  Calls Tryz.prog 115 #[.bool true, .pointer (some ⟨pr, 0, none⟩)] w fun e w' => e = .returned (.int .i64 0) ∧ w = w' := by
 obtain ⟨⟨A, c, h1, _⟩, _⟩ := h
 have hc := cell_of_one h1
 clear h1
 go_enter Tryz.func115, Tryz.ntmps115
 go_wp2
 go_ret
 exact ⟨rfl, rfl⟩
set_option maxRecDepth 100000 in
theorem take_cons (pr : Nat) (x : List UInt8) (r : List (List UInt8)) (w : World) (hE : Env w) (h : Rst w pr (x :: r)) :
  Calls Tryz.prog 115 #[.bool true, .pointer (some ⟨pr, 0, none⟩)] w fun e w' => e = .returned (.int .i64 (atoiV x)) ∧ Rst w' pr r ∧ Chg (fun k => k = pr) w w' := by
 have hbx := atoiV_bd x
 have HA := Lib.hid (atoi_any x w hE (h.len x (by simp)))
 obtain ⟨⟨A, c, h1, h2, h3, h4, h5⟩, h6⟩ := h
 obtain ⟨b, o, rfl, hc0⟩ := h2 0 x rfl
 have hcp := cell_of_one h1
 have hpr : pr < w.heap.size := (Array.getElem?_eq_some_iff.1 h1).1
 have hb := lt_of_cell hc0
 have hbn := h5 b o rfl
 rw [Nat.add_zero] at hc0
 simp only at hb
 obtain ⟨m, hm⟩ : ∃ m, r.length = m := ⟨_, rfl⟩
 have hlen : (x :: r).length = m + 1 := by simp [hm]
 rw [hlen] at h1 hcp h3
 have H1 := Lib.hid h1
 have H2 := Lib.hid h2
 have H6 := Lib.hid h6
 have HM := Lib.hid hm
 have hst : mkStr x = .string ⟨x.toArray⟩ := rfl
 rw [hst] at hc0
 clear h1 h2 h6 h5 hm hlen hst hE
 obtain ⟨V, hV⟩ : ∃ V, atoiV x = V := ⟨_, rfl⟩
 rw [hV] at HA hbx ⊢
 clear hV
 go_enter Tryz.func115, Tryz.ntmps115
 go_wp2_with fail
 refine HA.out.mono ?_
 rintro e w1 ⟨⟨ev, rfl⟩, hg⟩
 have HG := Lib.hid hg
 have hcp1 := cell_of_one (blockN hg H1.out)
 have hfp1 := free_of_one (blockN hg H1.out)
 clear hg
 go_wp2_with fail
 ·subst h
  go_ret
  have h0 : r = [] := by
   have := HM.out
   exact List.eq_nil_of_length_eq_zero (by omega)
  subst h0
  have hm0 : m = 0 := by have := HM.out; simpa using this.symm
  subst hm0
  refine ⟨rfl, ⟨⟨some ⟨b, o, none⟩, 0, ?_, fun i x hx => by simp at hx, by simp, by omega, ?_⟩, fun x hx => by simp at hx⟩, (Chg.of_non (S := fun k => k = pr) HG.out).setCell (p := ⟨pr, 0, none⟩) (.inl rfl) _⟩
  ·exact heap_setCell1 _ (blockN HG.out H1.out)
  ·intro b' o' e
   injection e with e
   injection e with e1 e2
   subst e1
   exact hbn
 ·go_ret
  have hk : Chg (fun k => k = pr) w (w1.setCell ⟨pr, 0, none⟩ (.slice (some ⟨b, o + 1, none⟩) m (c - 1))) := (Chg.of_non (S := fun k => k = pr) HG.out).setCell (p := ⟨pr, 0, none⟩) (.inl rfl) _
  refine ⟨rfl, ⟨⟨some ⟨b, o + 1, none⟩, c - 1, ?_, ?_, by have := HM.out; omega, by omega, ?_⟩, fun x hx => H6.out x (by simp [hx])⟩, hk⟩
  ·rw [HM.out]; exact heap_setCell1 _ (blockN HG.out H1.out)
  ·intro i y hy
   obtain ⟨b', o', e, hci⟩ := H2.out (i + 1) y (by simpa using hy)
   injection e with e
   injection e with e1 e2
   subst e1 e2
   exact ⟨b, o + 1, rfl, hk.cell_some (by rw [Nat.add_assoc, Nat.add_comm 1 i]; exact hci) hbn⟩
  ·intro b' o' e
   injection e with e
   injection e with e1 e2
   subst e1
   exact hbn
theorem take_any (has : Bool) (pr : Nat) (r : List (List UInt8)) (w : World) (hE : Env w) (h : Rst w pr r) :
  Calls Tryz.prog 115 #[.bool has, .pointer (some ⟨pr, 0, none⟩)] w fun e w' => e = .returned (.int .i64 (takeV has r)) ∧ Rst w' pr (takeR has r) ∧ Chg (fun k => k = pr) w w' := by
 cases has with
 | false =>
  refine (take_not _ w).mono fun e w' ⟨he, hw⟩ => ?_
  subst hw
  exact ⟨by simpa [takeV] using he, by simpa [takeR] using h, Chg.refl _ _⟩
 | true =>
  cases r with
  | nil =>
   refine (take_nil pr w h).mono fun e w' ⟨he, hw⟩ => ?_
   subst hw
   exact ⟨by simpa [takeV] using he, by simpa [takeR] using h, Chg.refl _ _⟩
  | cons x r =>
   refine (take_cons pr x r w hE h).mono fun e w' ⟨he, h1, h2⟩ => ?_
   exact ⟨he, h1, h2⟩
theorem takeV_bd (has : Bool) (r : List (List UInt8)) : -9223372036854775808 ≤ takeV has r ∧ takeV has r ≤ 9223372036854775807 := by
 unfold takeV
 split
 ·exact atoiV_bd _
 ·omega
end
section
def splitSp : List UInt8 → List (List UInt8)
 | [] => [[]]
 | c :: l => if c = 32 then [] :: splitSp l else match splitSp l with | w :: r => (c :: w) :: r | [] => [[c]]
theorem splitSp_ne (l : List UInt8) : splitSp l ≠ [] := by
 cases l with
 | nil => simp [splitSp]
 | cons c l =>
  unfold splitSp
  split
  ·simp
  ·split <;> simp
theorem split_eq (s : List UInt8) : Lib.split s [32] = splitSp s := by
 unfold Lib.split
 induction s with
 | nil => rfl
 | cons b l ih =>
  by_cases hb : b = 32
  ·subst hb
   rw [Lib.count_cons_eq, Nat.add_comm]
   unfold Lib.splitK splitSp
   have hi : Lib.index (32 :: l) [32] = 0 := by unfold Lib.index; simp [List.isPrefixOf]
   rw [hi]
   simp [ih]
  ·rw [Lib.count_cons_ne _ _ _ hb]
   have hp : List.isPrefixOf [32] (b :: l) = false := by
    simp [List.isPrefixOf]
    exact fun e => hb e.symm
   have hi : Lib.index (b :: l) [32] = if Lib.index l [32] == -1 then -1 else Lib.index l [32] + 1 := by
    conv => lhs; unfold Lib.index
    rw [hp]
    simp
   cases hk : Lib.count l [32] with
   | zero =>
    rw [hk] at ih
    unfold splitSp
    rw [if_neg hb, ← ih]
    simp [Lib.splitK]
   | succ k =>
    rw [hk] at ih
    unfold splitSp
    rw [if_neg hb, ← ih]
    unfold Lib.splitK
    rw [hi]
    by_cases h1 : (Lib.index l [32] == -1) = true
    ·simp only [h1, if_true]
     simp
    ·have hge : 0 ≤ Lib.index l [32] := by
      have h2 : ∀ m : List UInt8, -1 ≤ Lib.index m [32] := by
       intro m
       induction m with
       | nil => simp [Lib.index]
       | cons c m ihm =>
        unfold Lib.index
        split
        ·omega
        ·split
         ·omega
         ·omega
      have h3 := h2 l
      have h4 : Lib.index l [32] ≠ -1 := by simpa using h1
      omega
     simp only [h1, if_false, Bool.false_eq_true]
     have h5 : ¬ ((Lib.index l [32] + 1 == -1) = true) := by simp; omega
     rw [if_neg h5]
     have e1 : (Lib.index l [32] + 1).toNat = (Lib.index l [32]).toNat + 1 := by omega
     rw [e1]
     simp
theorem splitSp_word (w : List UInt8) (h : ∀ c ∈ w, c ≠ 32) : splitSp w = [w] := by
 induction w with
 | nil => rfl
 | cons c l ih =>
  unfold splitSp
  rw [if_neg (h c (by simp)), ih (fun x hx => h x (by simp [hx]))]
theorem splitSp_app (w r : List UInt8) (h : ∀ c ∈ w, c ≠ 32) : splitSp (w ++ 32 :: r) = w :: splitSp r := by
 induction w with
 | nil => simp [splitSp]
 | cons c l ih =>
  rw [List.cons_append]
  conv => lhs; unfold splitSp
  rw [if_neg (h c (by simp)), ih (fun x hx => h x (by simp [hx]))]
theorem splitSp_join : ∀ (ws : List (List UInt8)), ws ≠ [] → (∀ w ∈ ws, ∀ c ∈ w, c ≠ 32) → splitSp (Lib.join ws [32]) = ws
 | [], h, _ => absurd rfl h
 | [w], _, h => by rw [Lib.join_one]; exact splitSp_word w (h w (by simp))
 | w :: x :: r, _, h => by
  have ih := splitSp_join (x :: r) (by simp) (fun y hy => h y (by simp [hy]))
  rw [Lib.join_cons]
  have e : Lib.joinTail [32] (x :: r) = 32 :: Lib.join (x :: r) [32] := by
   rw [Lib.join_cons]; simp [Lib.joinTail]
  rw [e, splitSp_app w _ (h w (by simp)), ih]
theorem dec_digit (u : Nat) : ∀ c ∈ Lib.decDigits u, 48 ≤ c.toNat ∧ c.toNat ≤ 57 := by
 induction u using Nat.strongRecOn with
 | _ u ih =>
  rw [Lib.decDigits]
  split
  ·rename_i h
   intro c hc
   simp only [List.mem_singleton] at hc
   subst hc
   simp only [UInt8.toNat_ofNat']
   omega
  ·rename_i h
   intro c hc
   rw [List.mem_append, List.mem_singleton] at hc
   rcases hc with hc | rfl
   ·exact ih (u / 10) (by omega) c hc
   ·simp only [UInt8.toNat_ofNat']
    omega
theorem itoa_sp (n : Int) (h : 0 ≤ n) : ∀ c ∈ Lib.itoa n, c ≠ 32 := by
 obtain ⟨u, rfl⟩ := Int.eq_ofNat_of_zero_le h
 rw [Lib.itoa_nonneg]
 intro c hc e
 have := dec_digit u c hc
 subst e
 simp at this
theorem dec_ne (u : Nat) : Lib.decDigits u ≠ [] := by
 rw [Lib.decDigits]
 split <;> simp
theorem parse_app (l : List UInt8) (d : UInt8) : ∀ acc v : Nat, Lib.parseUint10 acc l = .ok v → 48 ≤ d.toNat → d.toNat ≤ 57 → v < 1000000 → Lib.parseUint10 acc (l ++ [d]) = .ok (v * 10 + (d.toNat - 48)) := by
 induction l with
 | nil =>
  intro acc v h h1 h2 hv
  simp only [Lib.parseUint10] at h
  injection h with h
  subst h
  simp only [List.nil_append, Lib.parseUint10]
  rw [if_pos ⟨h1, h2⟩, if_neg (by omega), if_neg (by omega)]
 | cons c r ih =>
  intro acc v h h1 h2 hv
  simp only [Lib.parseUint10, List.cons_append] at h ⊢
  split at h
  ·rename_i hc
   rw [if_pos hc]
   split at h
   ·cases h
   ·rename_i hc2
    rw [if_neg hc2]
    split at h
    ·cases h
    ·rename_i hc3
     rw [if_neg hc3]
     exact ih _ v h h1 h2 hv
  ·cases h
theorem parse_dec (u : Nat) (h : u < 1000000) : Lib.parseUint10 0 (Lib.decDigits u) = .ok u := by
 induction u using Nat.strongRecOn with
 | _ u ih =>
  rw [Lib.decDigits]
  split
  ·rename_i h10
   simp only [Lib.parseUint10, UInt8.toNat_ofNat']
   rw [if_pos (by omega), if_neg (by omega), if_neg (by omega)]
   congr 1
   omega
  ·rename_i h10
   rw [parse_app _ _ 0 (u / 10) (ih (u / 10) (by omega) (by omega)) (by simp only [UInt8.toNat_ofNat']; omega) (by simp only [UInt8.toNat_ofNat']; omega) (by omega)]
   congr 1
   simp only [UInt8.toNat_ofNat']
   omega
theorem atoi_itoa (u : Nat) (h : u < 1000000) : atoiV (Lib.itoa (u : Int)) = u := by
 rw [Lib.itoa_nonneg]
 have hd := dec_digit u
 have hne := dec_ne u
 have hp := parse_dec u h
 obtain ⟨c, r, hcr⟩ := List.exists_cons_of_ne_nil hne
 rw [hcr] at hd hp ⊢
 have hc := hd c (by simp)
 have e : Lib.atoiAll (c :: r) = .ok (u : Int) := by
  unfold Lib.atoiAll
  simp only
  rw [if_neg (by omega : ¬ (c.toNat = 43 ∨ c.toNat = 45))]
  unfold Lib.parseMag
  rw [if_neg (by simp), hp]
  simp only
  rw [if_neg (by omega), if_neg (by omega), if_neg (by omega)]
 unfold atoiV
 rw [e]
def parseK (k : Nat) (ws : List (List UInt8)) (s : List UInt8) : Option Ins :=
 let F := opAt k
 let r0 := ws.tail
 let a := takeV F.a r0
 let r1 := takeR F.a r0
 let b := takeV F.b r1
 let r2 := takeR F.b r1
 let c := takeV F.c r2
 let r3 := takeR F.c r2
 let n := takeV (decide (0 < F.n)) r3
 if 255 < max a (max b c) ∨ min a (min b c) < 0 then none
 else if textL ⟨k, a.toNat, b.toNat, c.toNat, n⟩ = s then some ⟨k, a.toNat, b.toNat, c.toNat, n⟩ else none
def ParseRel (s : List UInt8) (r : Option Ins) : Prop :=
 (r = none ∧ ∀ k, 1 ≤ k → k ≤ 21 → (opAt k).name ≠ (splitSp s).head!) ∨ ∃ k, 1 ≤ k ∧ k ≤ 21 ∧ (opAt k).name = (splitSp s).head! ∧ r = parseK k (splitSp s) s
theorem name_ne (k : Nat) (h1 : 1 ≤ k) (h2 : k ≤ 21) : (opAt k).name ≠ [] ∧ ∀ c ∈ (opAt k).name, c ≠ 32 := by
 have H : ∀ k, k < 22 → 1 ≤ k → (opAt k).name ≠ [] ∧ ∀ c ∈ (opAt k).name, c ≠ 32 := by decide
 exact H k (by omega) h1
theorem name_inj (j k : Nat) (h1 : 1 ≤ j) (h2 : j ≤ 21) (h3 : 1 ≤ k) (h4 : k ≤ 21) (h : (opAt j).name = (opAt k).name) : j = k := by
 have H : ∀ j, j < 22 → ∀ k, k < 22 → 1 ≤ j → 1 ≤ k → (opAt j).name = (opAt k).name → j = k := by decide +kernel
 exact H j (by omega) k (by omega) h1 h3 h
theorem textW_sp {x : Ins} (h : mayB x = true) : ∀ w ∈ textW x, ∀ c ∈ w, c ≠ 32 := by
 have hi := (mayB_iff x).1 h
 obtain ⟨ho, _, _, _, hn, _⟩ := hi
 intro w hw
 unfold textW wordIf at hw
 simp only [List.mem_cons, List.mem_append] at hw
 rcases hw with rfl | hw | hw | hw | hw
 ·exact (name_ne x.op ho.1 ho.2).2
 all_goals
  split at hw
  ·simp only [List.mem_singleton] at hw
   subst hw
   exact itoa_sp _ (by omega)
  ·simp at hw
theorem split_text {x : Ins} (h : mayB x = true) : splitSp (textL x) = textW x := by
 unfold textL
 rw [if_pos h]
 exact splitSp_join _ (by simp [textW]) (textW_sp h)
theorem take_word (has : Bool) (u : Nat) (h : u < 1000000) (r : List (List UInt8)) (hz : has = false → u = 0) : takeV has (wordIf has u ++ r) = u ∧ takeR has (wordIf has u ++ r) = r := by
 cases has with
 | true =>
  refine ⟨?_, by simp [takeR, wordIf]⟩
  show atoiV (Lib.itoa u) = u
  exact atoi_itoa u h
 | false => simp [takeV, takeR, wordIf, hz rfl]
theorem take_last (has : Bool) (u : Nat) (h : u < 1000000) (hz : has = false → u = 0) : takeV has (wordIf has u) = u := by
 have := (take_word has u h [] hz).1
 simpa using this
theorem parseK_text {x : Ins} (h : mayB x = true) : parseK x.op (textW x) (textL x) = some x := by
 have hb := May.bd h
 have hi := (mayB_iff x).1 h
 have hF := opAt_n x.op
 obtain ⟨op, a, b, c, n⟩ := x
 obtain ⟨ho, ha, hbb, hc, hn, hn2⟩ := hi
 simp only at ha hbb hc hn hn2 hF ho
 obtain ⟨m, rfl⟩ : ∃ m : Nat, n = m := ⟨n.toNat, by omega⟩
 have t1 := take_word (opAt op).a a (by omega) (wordIf (opAt op).b b ++ (wordIf (opAt op).c c ++ wordIf (decide (0 < (opAt op).n)) m)) (fun e => by rw [e] at ha; simpa using ha)
 have t2 := take_word (opAt op).b b (by omega) (wordIf (opAt op).c c ++ wordIf (decide (0 < (opAt op).n)) m) (fun e => by rw [e] at hbb; simpa using hbb)
 have t3 := take_word (opAt op).c c (by omega) (wordIf (decide (0 < (opAt op).n)) m) (fun e => by rw [e] at hc; simpa using hc)
 have t4 := take_last (decide (0 < (opAt op).n)) m (by omega) (fun e => by simp at e; omega)
 unfold parseK textW
 simp only [List.tail_cons, t1.1, t1.2, t2.1, t2.2, t3.1, t3.2, t4]
 rw [if_neg (by omega)]
 simp only [Int.toNat_natCast, if_true]
theorem parseK_sound {k : Nat} {ws : List (List UInt8)} {s : List UInt8} {x : Ins} (h : parseK k ws s = some x) : textL x = s ∧ x.op = k := by
 unfold parseK at h
 simp only at h
 split at h
 ·cases h
 ·split at h
  ·rename_i hs
   injection h with h
   subst h
   exact ⟨hs, rfl⟩
  ·cases h
theorem parse_spec {s : List UInt8} {r : Option Ins} (h : ParseRel s r) : (∀ x, r = some x → mayB x = true ∧ textL x = s) ∧ ∀ x, mayB x = true → textL x = s → r = some x := by
 constructor
 ·intro x hx
  subst hx
  rcases h with ⟨h, _⟩ | ⟨k, h1, h2, hn, h3⟩
  ·cases h
  ·obtain ⟨hs, hk⟩ := parseK_sound h3.symm
   refine ⟨?_, hs⟩
   cases hm : mayB x with
   | true => rfl
   | false =>
    exfalso
    have e : s = [] := by rw [← hs]; unfold textL; rw [hm]; rfl
    subst e
    exact (name_ne k h1 h2).1 hn
 ·intro x hx hs
  have hi := ((mayB_iff x).1 hx).1
  have hsp := split_text hx
  rw [hs] at hsp
  have hh : (splitSp s).head! = (opAt x.op).name := by rw [hsp]; rfl
  rcases h with ⟨rfl, hno⟩ | ⟨k, h1, h2, hn, rfl⟩
  ·exact absurd hh.symm (hno x.op hi.1 hi.2)
  ·have : k = x.op := name_inj k x.op h1 h2 hi.1 hi.2 (hn.trans hh)
   subst this
   rw [hsp, ← hs]
   exact parseK_text hx
end
end Go.Proofs.YtmnaleaghfbclaaGreatDoor
