/- CommitBack: the walk. -/
import Derived.Test.YthhbdejagglgbaaGreatRecBack
import Derived.Test.YthhbdejagglgbaaGreatHeld
namespace Go.Proofs.YthhbdejagglgbaaGreat
open Go.RowKit
set_option linter.unusedVariables false

set_option maxRecDepth 100000 in
set_option maxHeartbeats 4000000 in
theorem back_walk (f : Int) (B : Option Addr) (l : List Rec) (c : Nat) (w : World) (hB : RdR w B l) (hok : ∀ r ∈ l, r.Bd) :
    Calls Tryz.prog 4 #[.int .i64 f, .slice B l.length c] w fun e w' => e = .returned (.bool true) ∧ Chg Non w w' := by
  have HAw := Lib.hid cawake_ok
  have HRo := Lib.hid (fun (W : World) (h : RdR W B l) => rows_all f B l c W h (fun r hr => hok r hr))
  have HB := Lib.hid hB
  have HOK := Lib.hid hok
  clear hB hok
  go_enter Tryz.func4, Tryz.ntmps4
  go_wp2_with fail
  refine (HAw.out _).mono ?_
  rintro e u ⟨rfl, hg⟩
  have HBU := Lib.hid (HB.out.non hg)
  have HG := Lib.hid hg
  clear hg
  go_wp2_with fail
  refine (HRo.out _ HBU.out).mono ?_
  rintro e u2 (⟨rfl, hg⟩ | ⟨h1, h2, h3, pd, ps, pm, v, rfl, hI⟩)
  · have HG2 := Lib.hid (HG.out.then_non hg)
    clear hg
    go_wp2_with fail
    go_ret
    exact ⟨rfl, HG2.out⟩
  · obtain ⟨A, cc, rfl, hrd⟩ := rows_reads HOK.out (Nat.le_refl _) hI.2.1
    have hKC := hI.1
    clear hI
    by_cases hl : l.length = 0
    · have HG2 := Lib.hid (HG.out.then_non hKC.chg)
      clear hKC hrd
      have hb : ((l.length : Int) == 0) = true := by rw [beq_iff_eq]; omega
      go_wp2_with fail
      go_ret
      exact ⟨rfl, HG2.out⟩
    · obtain ⟨k, hk⟩ : ∃ k, l.length = k + 1 := ⟨l.length - 1, by omega⟩
      rw [hk] at hKC
      obtain ⟨bA, rfl, hrL⟩ := hrd k (by omega)
      have HRD := Lib.hid hrd
      clear hrd hl
      have hb : (((k + 1 : Nat) : Int) == 0) = false := by rw [beq_eq_false_iff_ne]; omega
      have hw1 : IntKind.i64.wrap (((k + 1 : Nat) : Int) - 1) = (k : Int) := by rw [Go.IntWalk.i64_in _ (by omega)]; omega
      have hw3 : IntKind.i64.wrap (k : Int) = (k : Int) := Go.IntWalk.i64_in _ (by omega)
      have hw2 : wrap64 (((k + 1 : Nat) : Int) - 1) = (k : Int) := by unfold wrap64; omega
      have hKG : ∀ W, KeptC u W pd ps pm 3 (stAt f l (k + 1)).1 (stAt f l (k + 1)).2 → Calls Tryz.prog 9 #[.pointer (some ⟨pd, 0, none⟩)] W fun e w' => e = .returned (.tuple #[.agg (recA (rN f l k)), .agg (recA (prevR f l k)), .int .i64 0]) ∧ KeptC u w' pd ps pm 3 (stAt f l (k + 1)).1 (stAt f l (k + 1)).2 ∧ Chg Non W w' := by
        intro W h
        have := keptC_get h
        rw [rows_tell f l k h1] at this
        exact this
      have HSL := Lib.hid (recA_size (rN f l k) (rN_ok HOK.out (by omega)))
      have HSP := Lib.hid (recA_size (prevR f l k) (prevR_ok HOK.out (by omega)))
      have HOL := Lib.hid (recA_one (rN f l k))
      have HOP := Lib.hid (recA_one (prevR f l k))
      have eL := neq_same (rN f l k) (rN_bd HOK.out h1 h2 (by omega) h3)
      have eP := eq_same (prevR f l k) (prevR_bd HOK.out h1 h2 (by omega) h3)
      have hP0 : k = 0 → recA (prevR f l k) = recZ := by rintro rfl; rfl
      have hP1 : ∀ j, k = j + 1 → recA (prevR f l k) = recA (rN f l j) := by rintro j rfl; rfl
      obtain ⟨XL, hXL⟩ : ∃ X, recA (rN f l k) = X := ⟨_, rfl⟩
      obtain ⟨XP, hXP⟩ : ∃ X, recA (prevR f l k) = X := ⟨_, rfl⟩
      simp only [hXL] at HSL HOL eL hKG hrL
      simp only [hXP] at HSP HOP eP hKG hP0 hP1
      have HKG := Lib.hid hKG
      have HRL := Lib.hid hrL
      have HXL := Lib.hid hXL
      have HXP := Lib.hid hXP
      have HP0 := Lib.hid hP0
      have HP1 := Lib.hid hP1
      have KC := Lib.hid hKC
      clear hKG hrL hXL hXP hP0 hP1 hKC
      rw [hk]
      have HK := Lib.hid hk
      clear hk
      go_wp2_with (first
        | (go_at_call 9
           refine (HKG.out _ KC.out).mono ?_
           rintro e u3 ⟨rfl, k3, hg⟩
           have KC := Lib.hid k3
           have HV3 := Lib.hid hg
           clear k3 hg)
        | (refine sel none (.store 25 (.tmp 8) (.tmp 30)) ?_
           refine wpList_store_rowA rfl 25 (.tmp 8) (.tmp 30) rfl u3.heap.size XL rfl rfl 25 _ (heap_alloc2_old _ _ _) (by rw [HSL.out]; exact info_rec) (by rw [HSL.out]; rfl) HOL.out ?_
           intro v8 hg1 hb1
           have HT8 : Hid (Two u3.heap.size (u3.heap.size + 1) XL recZ v8) := Lib.hid ⟨hb1, (hg1.block (u3.heap.size + 1) (by simp) (by omega)).trans (heap_alloc2_new _ _ _)⟩
           have HG8 := Lib.hid ((((Chg.refl Non u3).alloc _).alloc _).then_new hg1 (fun x e => by omega))
           clear hg1 hb1)
        | (refine sel none (.store 25 (.tmp 9) (.tmp 31)) ?_
           refine wpList_store_rowA rfl 25 (.tmp 9) (.tmp 31) rfl (u3.heap.size + 1) XP rfl rfl 25 _ HT8.out.2 (by rw [HSP.out]; exact info_rec) (by rw [HSP.out, recZ_size]) HOP.out ?_
           intro v9 hg2 hb2
           have HT := Lib.hid ((HT8.out.put2 (by omega) hg2 hb2).non (Chg.refl Non _).drew)
           have HV := Lib.hid ((HV3.out.then_non (HG8.out.then_new hg2 (fun x e => by omega))).drew)
           have KC := Lib.hid (KC.out.non (HG8.out.then_new hg2 (fun x e => by omega)))
           clear hg2 hb2))
      refine wp_region_held_drew (S := Chg Non v9.drew) (by kernel_rfl) (Chg.refl _ _) (fun _ => ?_)
      refine h_pure 0 (some 33) (.int .i64 0) rfl (by kernel_rfl) (by kernel_rfl) (by kernel_rfl) (by kernel_rfl) (fun _ _ _ h => h) (by kernel_rfl) (fun w e => by go_simp) (Chg.refl _ _) ?_
      simp only [Act.put, List.setIfInBounds_toArray, List.set_cons_zero, List.set_cons_succ]
      refine h_pure 1 (some 34) (.bool false) rfl (by kernel_rfl) (by kernel_rfl) (by kernel_rfl) (by kernel_rfl) (fun _ _ _ h => h) (by kernel_rfl) (fun w e => by go_simp) (Chg.refl _ _) ?_
      simp only [Act.put, List.setIfInBounds_toArray, List.set_cons_zero, List.set_cons_succ]
      refine h_pure 2 (some 35) (.bool false) rfl (by kernel_rfl) (by kernel_rfl) (by kernel_rfl) (by kernel_rfl) (fun _ _ _ h => h) (by kernel_rfl) (fun w e => by go_simp) (Chg.refl _ _) ?_
      simp only [Act.put, List.setIfInBounds_toArray, List.set_cons_zero, List.set_cons_succ]
      refine h_load 3 (some 36) 25 (.tmp 8) u3.heap.size 0 XL _ rfl (by kernel_rfl) (by kernel_rfl) (by kernel_rfl) (by kernel_rfl) (by kernel_rfl) (fun _ _ _ h => h) (by kernel_rfl) (by kernel_rfl) (fun w h => (HT.out.non h).left) Tryz.underlying25 rfl (by rw [HSL.out]; exact info_rec) (Chg.refl _ _) ?_
      simp only [Act.put, List.setIfInBounds_toArray, List.set_cons_zero, List.set_cons_succ]
      refine h_pure 4 (some 37) (.slice (some ⟨bA, 0, none⟩) (k + 1) cc) rfl (by kernel_rfl) (by kernel_rfl) (by kernel_rfl) (by kernel_rfl) (fun _ _ _ h => h) (by kernel_rfl) (fun w e => by go_simp) (Chg.refl _ _) ?_
      simp only [Act.put, List.setIfInBounds_toArray, List.set_cons_zero, List.set_cons_succ]
      refine h_pure 5 (some 38) (.slice (some ⟨bA, 0, none⟩) (k + 1) cc) rfl (by kernel_rfl) (by kernel_rfl) (by kernel_rfl) (by kernel_rfl) (fun _ _ _ h => h) (by kernel_rfl) (fun w e => by go_simp) (Chg.refl _ _) ?_
      simp only [Act.put, List.setIfInBounds_toArray, List.set_cons_zero, List.set_cons_succ]
      refine h_pure 6 (some 39) (.int .i64 ((k + 1 : Nat) : Int)) rfl (by kernel_rfl) (by kernel_rfl) (by kernel_rfl) (by kernel_rfl) (fun _ _ _ h => h) (by kernel_rfl) (fun w e => by go_simp) (Chg.refl _ _) ?_
      simp only [Act.put, List.setIfInBounds_toArray, List.set_cons_zero, List.set_cons_succ]
      refine h_pure 7 (some 40) (.int .i64 (k : Int)) rfl (by kernel_rfl) (by kernel_rfl) (by kernel_rfl) (by kernel_rfl) (fun _ _ _ h => h) (by kernel_rfl) (fun w e => by go_simp) (Chg.refl _ _) ?_
      simp only [Act.put, List.setIfInBounds_toArray, List.set_cons_zero, List.set_cons_succ]
      refine h_pure 8 (some 41) (.pointer (some ⟨bA, k * 36, none⟩)) rfl (by kernel_rfl) (by kernel_rfl) (by kernel_rfl) (by kernel_rfl) (fun _ _ _ h => h) (by kernel_rfl) (fun w e => by go_simp; intro hh; omega) (Chg.refl _ _) ?_
      simp only [Act.put, List.setIfInBounds_toArray, List.set_cons_zero, List.set_cons_succ]
      refine h_load 9 (some 42) 25 (.tmp 41) bA (k * 36) XL _ rfl (by kernel_rfl) (by kernel_rfl) (by kernel_rfl) (by kernel_rfl) (by kernel_rfl) (fun _ _ _ h => h) (by kernel_rfl) (by kernel_rfl) (fun w h => range_non (HV.out.then_non h) HRL.out) Tryz.underlying25 rfl (by rw [HSL.out]; exact info_rec) (Chg.refl _ _) ?_
      simp only [Act.put, List.setIfInBounds_toArray, List.set_cons_zero, List.set_cons_succ]
      refine h_pure 10 (some 43) (.bool false) rfl (by kernel_rfl) (by kernel_rfl) (by kernel_rfl) (by kernel_rfl) (fun _ _ _ h => h) (by kernel_rfl) (fun w e => by go_simp) (Chg.refl _ _) ?_
      simp only [Act.put, List.setIfInBounds_toArray, List.set_cons_zero, List.set_cons_succ]
      refine h_pure 11 (some 44) (.bool false) rfl (by kernel_rfl) (by kernel_rfl) (by kernel_rfl) (by kernel_rfl) (fun _ _ _ h => h) (by kernel_rfl) (fun w e => by go_simp) (Chg.refl _ _) ?_
      simp only [Act.put, List.setIfInBounds_toArray, List.set_cons_zero, List.set_cons_succ]
      refine wpAnyH_done (by kernel_rfl) ?_ _
      by_cases hk0 : k = 0
      · have hp := HP0.out hk0
        have hb1 : (((k + 1 : Nat) : Int) == 1) = true := by rw [beq_iff_eq]; omega
        subst hp
        have HF := Lib.hid ((HG.out.then_non KC.out.chg).drew)
        go_wp2_with (first
          | (refine sel (some 48) (.load 25 (.tmp 9)) ?_
             refine wpList_loadW (some 48) 25 (.tmp 9) (u3.heap.size + 1) 0 recZ _ rfl rfl (by kernel_rfl) (by kernel_rfl) HT.out.right Tryz.underlying25 rfl (by rw [HSP.out]; exact info_rec) ?_)
          | (refine sel (some 49) (.build 25 #[]) ?_
             refine wpList_pureW (some 49) (.agg recZ) rfl (by kernel_rfl) (by kernel_rfl) ?_))
        go_ret
        exact ⟨rfl, HF.out⟩
      · obtain ⟨j, hj⟩ : ∃ j, k = j + 1 := ⟨k - 1, by omega⟩
        have hb1 : (((k + 1 : Nat) : Int) == 1) = false := by rw [beq_eq_false_iff_ne]; omega
        have hkb : (k : Int) < 21 := by have := HK.out; omega
        have hw4 : IntKind.i64.wrap (((k + 1 : Nat) : Int) - 2) = (j : Int) := by rw [Go.IntWalk.i64_in _ (by omega)]; omega
        have hw6 : IntKind.i64.wrap ((j : Int) + 1 + 1 - 2) = (j : Int) := by rw [Go.IntWalk.i64_in _ (by omega)]; omega
        have hw5 : IntKind.i64.wrap ((k : Int) + 1 - 2) = (j : Int) := by rw [Go.IntWalk.i64_in _ (by omega)]; omega
        have hrj := (HRD.out j (by have := HK.out; omega))
        have HF := Lib.hid ((HG.out.then_non KC.out.chg).drew)
        obtain ⟨bJ, hbJ, hrJ⟩ := hrj
        cases hbJ
        have hxj := HP1.out j hj
        rw [← hxj] at hrJ
        have HRJ := Lib.hid hrJ
        clear hrJ hxj
        go_wp2_with fail
        refine wp_region_held_drew (S := Chg Non v9.drew.drew) (by kernel_rfl) (Chg.refl _ _) (fun _ => ?_)
        refine h_load 0 (some 51) 25 (.tmp 9) (u3.heap.size + 1) 0 XP _ rfl (by kernel_rfl) (by kernel_rfl) (by kernel_rfl) (by kernel_rfl) (by kernel_rfl) (fun _ _ _ h => h) (by kernel_rfl) (by kernel_rfl) (fun w h => ((HT.out.non (Chg.refl Non _).drew).non h).right) Tryz.underlying25 rfl (by rw [HSP.out]; exact info_rec) (Chg.refl _ _) ?_
        simp only [Act.put, List.setIfInBounds_toArray, List.set_cons_zero, List.set_cons_succ]
        refine h_pure 1 (some 52) (.slice (some ⟨bA, 0, none⟩) (k + 1) cc) rfl (by kernel_rfl) (by kernel_rfl) (by kernel_rfl) (by kernel_rfl) (fun _ _ _ h => h) (by kernel_rfl) (fun w e => by go_simp) (Chg.refl _ _) ?_
        simp only [Act.put, List.setIfInBounds_toArray, List.set_cons_zero, List.set_cons_succ]
        refine h_pure 2 (some 53) (.slice (some ⟨bA, 0, none⟩) (k + 1) cc) rfl (by kernel_rfl) (by kernel_rfl) (by kernel_rfl) (by kernel_rfl) (fun _ _ _ h => h) (by kernel_rfl) (fun w e => by go_simp) (Chg.refl _ _) ?_
        simp only [Act.put, List.setIfInBounds_toArray, List.set_cons_zero, List.set_cons_succ]
        refine h_pure 3 (some 54) (.int .i64 ((k + 1 : Nat) : Int)) rfl (by kernel_rfl) (by kernel_rfl) (by kernel_rfl) (by kernel_rfl) (fun _ _ _ h => h) (by kernel_rfl) (fun w e => by go_simp) (Chg.refl _ _) ?_
        simp only [Act.put, List.setIfInBounds_toArray, List.set_cons_zero, List.set_cons_succ]
        refine h_pure 4 (some 55) (.int .i64 (j : Int)) rfl (by kernel_rfl) (by kernel_rfl) (by kernel_rfl) (by kernel_rfl) (fun _ _ _ h => h) (by kernel_rfl) (fun w e => by go_simp) (Chg.refl _ _) ?_
        simp only [Act.put, List.setIfInBounds_toArray, List.set_cons_zero, List.set_cons_succ]
        refine h_pure 5 (some 56) (.pointer (some ⟨bA, j * 36, none⟩)) rfl (by kernel_rfl) (by kernel_rfl) (by kernel_rfl) (by kernel_rfl) (fun _ _ _ h => h) (by kernel_rfl) (fun w e => by go_simp; intro hh; omega) (Chg.refl _ _) ?_
        simp only [Act.put, List.setIfInBounds_toArray, List.set_cons_zero, List.set_cons_succ]
        refine h_load 6 (some 57) 25 (.tmp 56) bA (j * 36) XP _ rfl (by kernel_rfl) (by kernel_rfl) (by kernel_rfl) (by kernel_rfl) (by kernel_rfl) (fun _ _ _ h => h) (by kernel_rfl) (by kernel_rfl) (fun w h => range_non (HV.out.drew.then_non h) HRJ.out) Tryz.underlying25 rfl (by rw [HSP.out]; exact info_rec) (Chg.refl _ _) ?_
        simp only [Act.put, List.setIfInBounds_toArray, List.set_cons_zero, List.set_cons_succ]
        refine h_pure 7 (some 58) (.bool true) rfl (by kernel_rfl) (by kernel_rfl) (by kernel_rfl) (by kernel_rfl) (fun _ _ _ h => h) (by kernel_rfl) (fun w e => by go_simp) (Chg.refl _ _) ?_
        simp only [Act.put, List.setIfInBounds_toArray, List.set_cons_zero, List.set_cons_succ]
        refine h_pure 8 (some 4) (.bool true) rfl (by kernel_rfl) (by kernel_rfl) (by kernel_rfl) (by kernel_rfl) (fun _ _ _ h => h) (by kernel_rfl) (fun w e => by go_simp) (Chg.refl _ _) ?_
        simp only [Act.put, List.setIfInBounds_toArray, List.set_cons_zero, List.set_cons_succ]
        refine wpAnyH_done (by kernel_rfl) ?_ _
        go_wp2_with fail
        go_ret
        exact ⟨rfl, HF.out.drew⟩
end Go.Proofs.YthhbdejagglgbaaGreat
