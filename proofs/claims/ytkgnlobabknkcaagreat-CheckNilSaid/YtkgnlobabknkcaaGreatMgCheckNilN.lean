/- CheckNil, part 14 of 14: contracts of the functions that it reaches, and the laws that they need, merged and shortened (from my texts XCkNil, XPost, XOpen, XSized, XCkOpen). -/
import Derived.Test.YtkgnlobabknkcaaGreatMgCheckNilA
import Derived.Test.YtkgnlobabknkcaaGreatMgCheckNilB
import Derived.Test.YtkgnlobabknkcaaGreatMgCheckNilD
import Derived.Test.YtkgnlobabknkcaaGreatMgCheckNilH
import Derived.Test.YtkgnlobabknkcaaGreatMgCheckNilM
import Derived.ProofKit
import Derived.WalkKit
import Derived.OpenShut
import Derived.ReadAgain
import Derived.SizedLaws
import Derived.Deep.Slices
namespace Go.Proofs.YtkgnlobabknkcaaGreat
set_option linter.unusedVariables false
set_option linter.unusedSimpArgs false
set_option maxHeartbeats 8000000
section
open Go.RowKit Go.Shelf
attribute [local go_sem] Oper.semAt_some
theorem dkNew_len (m : Nat) : (Dk.new m).sec.length = m := by simp [Dk.new]
theorem range3 {w : World} {b o : Nat} {x y z : Value} (h0 : w.cell? ⟨b, o, none⟩ = some x) (h1 : w.cell? ⟨b, o + 1, none⟩ = some y) (h2 : w.cell? ⟨b, o + 2, none⟩ = some z) : w.rangeAt b o [x, y, z] := fun j v hv => by
 match j, hv with
 | 0, hv => simp at hv; rw [← hv]; exact h0
 | 1, hv => simp at hv; rw [← hv]; exact h1
 | 2, hv => simp at hv; rw [← hv]; exact h2
 | j + 3, hv => simp at hv
set_option maxRecDepth 100000 in
theorem checkNil_walk (I : Nat → Prop) (n : Int) (s : Sta) (vb vd : Value) (k : Int) (w : World) (h : StaV I w s vb vd) (hI : ∀ b, I b → b < w.heap.size) :
  Calls Tryz.prog 3 #[.int .i64 n, .agg #[.int .i64 s.frames, vb, vd], .int .i64 k] w fun e w' => e = .returned (.bool true) ∧ Chg Non w w' := by
 have HV := Lib.hid h
 obtain ⟨⟨A, c, rfl, hc, hcm, hrp⟩, ⟨A2, c2, rfl, hc2, hcm2, hrq⟩⟩ := h
 clear hrp hrq
 go_enter Tryz.func3, Tryz.ntmps3
 go_wp2_with fail
 have hb1 := blk_new (w.alloc (.cells #[.int .i64 s.frames, .slice A s.parts.length c, .slice A2 s.queues.length c2] 25)) (.cells #[.int .i64 0, .int .i64 0, .int .i64 0, .int .u8 0, .int .u8 0, .int .u8 0, .int .u8 0, .int .u8 0, .int .u8 0, .int .u8 0, .int .u8 0, .int .u8 0, .int .u8 0, .int .u8 0, .int .u8 0, .int .u8 0, .int .u8 0, .int .u8 0, .int .u8 0, .int .u8 0, .int .u8 0, .int .u8 0, .int .u8 0, .int .u8 0, .int .u8 0, .int .u8 0, .int .u8 0, .int .u8 0, .int .u8 0, .int .u8 0, .int .u8 0, .int .u8 0, .int .u8 0, .int .u8 0, .int .u8 0, .int .i64 s.frames, .slice A s.parts.length c, .slice A2 s.queues.length c2, .slice none 0 0] 31)
 have hb0 := blk_keep (blk_new w (.cells #[.int .i64 s.frames, .slice A s.parts.length c, .slice A2 s.queues.length c2] 25)) ((Chg.refl Non _).alloc (.cells #[.int .i64 0, .int .i64 0, .int .i64 0, .int .u8 0, .int .u8 0, .int .u8 0, .int .u8 0, .int .u8 0, .int .u8 0, .int .u8 0, .int .u8 0, .int .u8 0, .int .u8 0, .int .u8 0, .int .u8 0, .int .u8 0, .int .u8 0, .int .u8 0, .int .u8 0, .int .u8 0, .int .u8 0, .int .u8 0, .int .u8 0, .int .u8 0, .int .u8 0, .int .u8 0, .int .u8 0, .int .u8 0, .int .u8 0, .int .u8 0, .int .u8 0, .int .u8 0, .int .u8 0, .int .u8 0, .int .u8 0, .int .i64 s.frames, .slice A s.parts.length c, .slice A2 s.queues.length c2, .slice none 0 0] 31)) (fun e => e)
 have hg1 := ((Chg.refl Non w).alloc (.cells #[.int .i64 s.frames, .slice A s.parts.length c, .slice A2 s.queues.length c2] 25)).alloc (.cells #[.int .i64 0, .int .i64 0, .int .i64 0, .int .u8 0, .int .u8 0, .int .u8 0, .int .u8 0, .int .u8 0, .int .u8 0, .int .u8 0, .int .u8 0, .int .u8 0, .int .u8 0, .int .u8 0, .int .u8 0, .int .u8 0, .int .u8 0, .int .u8 0, .int .u8 0, .int .u8 0, .int .u8 0, .int .u8 0, .int .u8 0, .int .u8 0, .int .u8 0, .int .u8 0, .int .u8 0, .int .u8 0, .int .u8 0, .int .u8 0, .int .u8 0, .int .u8 0, .int .u8 0, .int .u8 0, .int .u8 0, .int .i64 s.frames, .slice A s.parts.length c, .slice A2 s.queues.length c2, .slice none 0 0] 31)
 have hs1 : (w.alloc (.cells #[.int .i64 s.frames, .slice A s.parts.length c, .slice A2 s.queues.length c2] 25)).heap.size = w.heap.size + 1 := by simp
 rw [hs1] at hb1
 obtain ⟨W1, hW1⟩ : ∃ W1, (w.alloc (.cells #[.int .i64 s.frames, .slice A s.parts.length c, .slice A2 s.queues.length c2] 25)).alloc (.cells #[.int .i64 0, .int .i64 0, .int .i64 0, .int .u8 0, .int .u8 0, .int .u8 0, .int .u8 0, .int .u8 0, .int .u8 0, .int .u8 0, .int .u8 0, .int .u8 0, .int .u8 0, .int .u8 0, .int .u8 0, .int .u8 0, .int .u8 0, .int .u8 0, .int .u8 0, .int .u8 0, .int .u8 0, .int .u8 0, .int .u8 0, .int .u8 0, .int .u8 0, .int .u8 0, .int .u8 0, .int .u8 0, .int .u8 0, .int .u8 0, .int .u8 0, .int .u8 0, .int .u8 0, .int .u8 0, .int .u8 0, .int .i64 s.frames, .slice A s.parts.length c, .slice A2 s.queues.length c2, .slice none 0 0] 31) = W1 := ⟨_, rfl⟩
 rw [hW1] at hb1 hb0 hg1 ⊢
 clear hW1 hs1
 obtain ⟨b0, hbe⟩ : ∃ b, w.heap.size = b := ⟨_, rfl⟩
 rw [hbe] at hb1 hb0 ⊢
 have HBe := Lib.hid hbe
 clear hbe
 have HGr := Lib.hid (great_one I s _ _ W1 (b0 + 1) (range3 (blk_cell hb1 35 rfl) (blk_cell hb1 36 rfl) (blk_cell hb1 37 rfl)) (blk_cell hb1 38 rfl) (HV.out.non hg1))
 have HB0 := Lib.hid hb0
 have HG1 := Lib.hid hg1
 clear hb1 hb0 hg1
 refine HGr.out.mono ?_
 rintro e u ⟨r, rfl, hg⟩
 have HB := Lib.hid (blk_keep HB0.out hg (fun e => e))
 have HG := Lib.hid (HG1.out.then_non hg)
 clear hg HG1 HB0 HGr
 cases r with
 | true =>
  go_wp2_with fail
  all_goals go_ret
  all_goals exact ⟨rfl, HG.out⟩
 | false =>
  by_cases hk1 : k < 1
  ·have hkd : decide (k < 1) = true := by rw [decide_eq_true_eq]; omega
   go_wp2_with fail
   all_goals go_ret
   all_goals exact ⟨rfl, HG.out⟩
  have hkd : decide (k < 1) = false := by rw [decide_eq_false_iff_not]; omega
  by_cases hk2 : 323 ≤ k
  ·have hkd2 : decide (k ≥ 323) = true := by rw [decide_eq_true_eq]; omega
   go_wp2_with fail
   all_goals go_ret
   all_goals exact ⟨rfl, HG.out⟩
  have hkd2 : decide (k ≥ 323) = false := by rw [decide_eq_false_iff_not]; omega
  obtain ⟨m, rfl⟩ : ∃ m : Nat, k = (m : Int) := ⟨k.toNat, by omega⟩
  go_wp2_with fail
  refine (New_ok m u (by omega) (by omega)).mono ?_
  rintro e u1 ⟨pd, ps, pm, rfl, hD, hp1, hp2, hp3, hg⟩
  have HD := Lib.hid hD
  have HBu := Lib.hid (blk_keep HB.out hg (fun e => e))
  have HGu := Lib.hid (HG.out.then_non hg)
  have HKm := Lib.hid (show 1 ≤ m ∧ m ≤ 322 from ⟨by omega, by omega⟩)
  clear hD hp1 hp2 hp3 hg HB HG hk1 hk2 hkd hkd2
  go_wp2_with fail
  have kq := blk_keep (blk_new u1 (.cells #[.bool false, .slice none 0 0, .map none, .int .i64 0, .slice none 0 0] 40)) ((Chg.refl Non _).alloc (.cells #[.pointer none, .pointer (some ⟨u1.heap.size, 0, none⟩), .pointer (some ⟨pd, 0, none⟩)] 33)) (fun e => e)
  have ka := blk_new (u1.alloc (.cells #[.bool false, .slice none 0 0, .map none, .int .i64 0, .slice none 0 0] 40)) (.cells #[.pointer none, .pointer (some ⟨u1.heap.size, 0, none⟩), .pointer (some ⟨pd, 0, none⟩)] 33)
  have hgU := ((Chg.refl Non u1).alloc (.cells #[.bool false, .slice none 0 0, .map none, .int .i64 0, .slice none 0 0] 40)).alloc (.cells #[.pointer none, .pointer (some ⟨u1.heap.size, 0, none⟩), .pointer (some ⟨pd, 0, none⟩)] 33)
  obtain ⟨U, hU⟩ : ∃ U, (u1.alloc (.cells #[.bool false, .slice none 0 0, .map none, .int .i64 0, .slice none 0 0] 40)).alloc (.cells #[.pointer none, .pointer (some ⟨u1.heap.size, 0, none⟩), .pointer (some ⟨pd, 0, none⟩)] 33) = U := ⟨_, rfl⟩
  rw [hU] at kq ka hgU ⊢
  clear hU
  have hsq : (u1.alloc (.cells #[.bool false, .slice none 0 0, .map none, .int .i64 0, .slice none 0 0] 40)).heap.size = u1.heap.size + 1 := by simp
  rw [hsq] at ka
  clear hsq
  obtain ⟨q, hq⟩ : ∃ b, u1.heap.size = b := ⟨_, rfl⟩
  rw [hq] at kq ka ⊢
  clear hq
  have HQ := Lib.hid (fun W (hg : Chg Non U W) => (show NoDisk W (some ⟨q, 0, none⟩) from ⟨rfl, hg.cell_some (blk_cell kq 2 rfl) (fun e => e)⟩))
  have HA := Lib.hid ka
  have HDU := Lib.hid (HD.out.non hgU)
  have HBU := Lib.hid (blk_keep HBu.out hgU (fun e => e))
  have HGU := Lib.hid (HGu.out.then_non hgU)
  have HVU := Lib.hid (HV.out.non HGU.out)
  clear kq ka hgU HD HBu HGu HV
  go_loopw [11] (fun iv wr => ∃ j : Nat, j ≤ 3 ∧ iv = .int .i64 j ∧ Hid (Chg Non U wr)) (fun iv _ => 3 - (intOf iv).toNat)
  case atStart => exact ⟨0, Nat.zero_le _, rfl, Lib.hid (Chg.refl _ _)⟩
  case round =>
   obtain ⟨j, hj, rfl, HG⟩ := hrel
   have hj4 : j = 0 ∨ j = 1 ∨ j = 2 ∨ j = 3 := by omega
   rcases hj4 with rfl | rfl | rfl | rfl
   ·have ca := HG.out.cell_some (blk_cell HA.out 0 (v := .pointer none) rfl) (fun e => e)
    go_wp2_with fail
    refine (kGet_no none wr (fun W hW => trivial)).mono ?_
    rintro e u2 ⟨rfl, hg⟩
    have HG2 := Lib.hid (HG.out.then_non hg)
    clear hg ca
    obtain ⟨bt, hbt⟩ : ∃ b, u2.heap.size = b := ⟨_, rfl⟩
    have hzt : ∀ o o2, ((u2.alloc o).alloc o2).heap[bt]? = some o := fun o o2 => by rw [← hbt]; exact heap_alloc2_old _ _ _
    have hzs : ∀ o o2, ((u2.alloc o).alloc o2).heap[bt + 1]? = some o2 := fun o o2 => by rw [← hbt]; exact heap_alloc2_new _ _ _
    have hgo : ∀ o o2, Chg Non u2 ((u2.alloc o).alloc o2) := fun o o2 => ((Chg.refl Non u2).alloc o).alloc o2
    go_wp2_with (first
      | (refine sel none (.store 28 (.tmp 14) (.tmp 54)) ?_
         refine wpList_store_rowA rfl 28 (.tmp 14) (.tmp 54) rfl bt (tagA zTag) rfl rfl 28 _ (hzt _ _) (by rw [tagA_size _ zTag_len]; exact info_tag) rfl (tagA_one _) ?_
         intro W3 hg3 hb3
         have hs3 := blk_keep (hzs _ _) hg3 (fun e => by have e : bt + 1 = bt := e; omega)
         have hG3 := (hgo _ _).then_new hg3 (fun x e => by have e : x = bt := e; omega))
      | (refine sel none (.store 25 (.tmp 15) (.tmp 55)) ?_
         refine wpList_store_rowA rfl 25 (.tmp 15) (.tmp 55) rfl (bt + 1) zStC rfl rfl 25 _ hs3 info_st rfl (by kernel_rfl) ?_
         intro W4 hg4 hb4
         have HT := Lib.hid (blk_keep hb3 hg4 (fun e => by have e : bt = bt + 1 := e; omega))
         have HG4 := Lib.hid (HG2.out.then_non (hG3.then_new hg4 (fun x e => by have e : x = bt + 1 := e; omega)))
         have hq4 := blk_cell hb4 1 (v := .slice none 0 0) rfl
         clear hs3 hG3 hg3 hb3 hg4 hb4)
      | (refine sel (some 65) (.load 28 (.tmp 14)) ?_; refine wpList_loadW (some 65) 28 (.tmp 14) bt 0 (tagA zTag) _ rfl rfl (by kernel_rfl) rfl (blk_range HT.out) Tryz.underlying28 rfl (by rw [tagA_size _ zTag_len]; exact info_tag) ?_)
      | (refine sel (some 66) (.build 28 _) ?_; refine wpList_pureW (some 66) (.agg (tagA zTag)) rfl (by kernel_rfl) (by kernel_rfl) ?_)
      | (refine sel (some 67) (.binOp .neq 28 (.tmp 65) (.tmp 66) 28) ?_; refine wpList_pureW (some 67) (.bool false) rfl (by kernel_rfl) (by kernel_rfl) ?_))
    obtain ⟨V2, hV2⟩ : ∃ V2, V2 = W4.drew := ⟨_, rfl⟩
    have hw2 : Chg Non W4 V2 := by rw [hV2]; exact (Chg.refl Non W4).drew
    have HGV := Lib.hid (HG4.out.then_non hw2)
    have HTV := Lib.hid (blk_keep HT.out hw2 (fun e => e))
    clear hw2 HG4 HT hq4 hbt hzt hzs hgo HG2
    have HS : Hid (Chg Non V2 V2) := Lib.hid (Chg.refl _ _)
    refine wp_region_held_drew (S := Chg Non V2) (by kernel_rfl) (by rw [hV2]; exact Chg.refl _ _) (fun hHeld => ?_)
    clear hHeld
    rw [← hV2]
    clear hV2
    refine hp 0 75 (.int .i64 ((0 : Nat) : Int)) rfl HS.out ?_
    refine hp 1 76 (.bool true) rfl HS.out ?_
    refine hp 2 77 (.bool true) rfl HS.out ?_
    refine hp 3 78 (.slice (some ⟨q + 1, 0, none⟩) 3 3) rfl HS.out ?_
    refine hp 4 79 (.int .i64 ((0 : Nat) : Int)) rfl HS.out ?_
    refine hp 5 80 (.pointer (some ⟨q + 1, 0, none⟩)) rfl HS.out ?_
    refine hp 6 81 (.pointer none) rfl HS.out ?_ (he := (fun W hW => by have hc := (HGV.out.then_non hW).cell_some (blk_cell HA.out 0 (v := .pointer none) rfl) (fun e => e); go_simp))
    refine hp 7 82 (.int .i64 n) rfl HS.out ?_
    refine h_load 8 (some 83) 28 (.tmp 14) bt 0 (tagA zTag) _ rfl (by kernel_rfl) (by kernel_rfl) (by kernel_rfl) (by kernel_rfl) (by kernel_rfl) (fun _ _ _ h => h) (by kernel_rfl) (by kernel_rfl) (fun W hW => range_keepS (blk_range HTV.out) hW (fun e => e)) Tryz.underlying28 rfl (by rw [tagA_size _ zTag_len]; exact info_tag) HS.out ?_
    simp only [Act.put, sA, sB, sC]
    refine h_load 9 (some 84) 25 (.tmp 4) b0 0 #[.int .i64 s.frames, .slice A s.parts.length c, .slice A2 s.queues.length c2] _ rfl (by kernel_rfl) (by kernel_rfl) (by kernel_rfl) (by kernel_rfl) (by kernel_rfl) (fun _ _ _ h => h) (by kernel_rfl) (by kernel_rfl) (fun W hW => range_keepS (blk_range HBU.out) (HGV.out.then_non hW) (fun e => e)) Tryz.underlying25 rfl info_st HS.out ?_
    simp only [Act.put, sA, sB, sC]
    refine hp 11 86 (.int .i64 1) rfl HS.out ?_
    refine h_one 10 (by kernel_rfl) rfl (by kernel_rfl) ?_
    intro K hK
    go_simp
    refine (kPut_no I none n (tagA zTag) s _ _ V2 (HVU.out.non HGV.out) (fun b hb => Nat.lt_of_lt_of_le (hI b hb) (HGU.out.then_non HGV.out).size) (fun W hW => trivial)).mono ?_
    rintro e u5 ⟨rfl, hg⟩
    have HS := Lib.hid hg
    refine hK.out _ _ HS.out (fun _ => ?_)
    clear hK K hg
    try simp only [Act.put, sA, sB, sC]
    refine hp 12 87 (.bool false) rfl HS.out ?_
    refine hp 13 88 (.bool false) rfl HS.out ?_
    refine wpAnyH_done (by kernel_rfl) ?_ _
    have HN := Lib.hid (HGV.out.then_non HS.out)
    clear HS HGV HTV
    go_wp2_with fail
    exact ⟨⟨1, by omega, by simp, HN⟩, by simp [intOf]⟩
   ·have ca := HG.out.cell_some (blk_cell HA.out 1 (v := .pointer (some ⟨q, 0, none⟩)) rfl) (fun e => e)
    go_wp2_with fail
    refine (kGet_no (some ⟨q, 0, none⟩) wr (fun W hW => HQ.out W (HG.out.then_non hW))).mono ?_
    rintro e u2 ⟨rfl, hg⟩
    have HG2 := Lib.hid (HG.out.then_non hg)
    clear hg ca
    obtain ⟨bt, hbt⟩ : ∃ b, u2.heap.size = b := ⟨_, rfl⟩
    have hzt : ∀ o o2, ((u2.alloc o).alloc o2).heap[bt]? = some o := fun o o2 => by rw [← hbt]; exact heap_alloc2_old _ _ _
    have hzs : ∀ o o2, ((u2.alloc o).alloc o2).heap[bt + 1]? = some o2 := fun o o2 => by rw [← hbt]; exact heap_alloc2_new _ _ _
    have hgo : ∀ o o2, Chg Non u2 ((u2.alloc o).alloc o2) := fun o o2 => ((Chg.refl Non u2).alloc o).alloc o2
    go_wp2_with (first
      | (refine sel none (.store 28 (.tmp 14) (.tmp 54)) ?_
         refine wpList_store_rowA rfl 28 (.tmp 14) (.tmp 54) rfl bt (tagA zTag) rfl rfl 28 _ (hzt _ _) (by rw [tagA_size _ zTag_len]; exact info_tag) rfl (tagA_one _) ?_
         intro W3 hg3 hb3
         have hs3 := blk_keep (hzs _ _) hg3 (fun e => by have e : bt + 1 = bt := e; omega)
         have hG3 := (hgo _ _).then_new hg3 (fun x e => by have e : x = bt := e; omega))
      | (refine sel none (.store 25 (.tmp 15) (.tmp 55)) ?_
         refine wpList_store_rowA rfl 25 (.tmp 15) (.tmp 55) rfl (bt + 1) zStC rfl rfl 25 _ hs3 info_st rfl (by kernel_rfl) ?_
         intro W4 hg4 hb4
         have HT := Lib.hid (blk_keep hb3 hg4 (fun e => by have e : bt = bt + 1 := e; omega))
         have HG4 := Lib.hid (HG2.out.then_non (hG3.then_new hg4 (fun x e => by have e : x = bt + 1 := e; omega)))
         have hq4 := blk_cell hb4 1 (v := .slice none 0 0) rfl
         clear hs3 hG3 hg3 hb3 hg4 hb4)
      | (refine sel (some 65) (.load 28 (.tmp 14)) ?_; refine wpList_loadW (some 65) 28 (.tmp 14) bt 0 (tagA zTag) _ rfl rfl (by kernel_rfl) rfl (blk_range HT.out) Tryz.underlying28 rfl (by rw [tagA_size _ zTag_len]; exact info_tag) ?_)
      | (refine sel (some 66) (.build 28 _) ?_; refine wpList_pureW (some 66) (.agg (tagA zTag)) rfl (by kernel_rfl) (by kernel_rfl) ?_)
      | (refine sel (some 67) (.binOp .neq 28 (.tmp 65) (.tmp 66) 28) ?_; refine wpList_pureW (some 67) (.bool false) rfl (by kernel_rfl) (by kernel_rfl) ?_))
    obtain ⟨V2, hV2⟩ : ∃ V2, V2 = W4.drew := ⟨_, rfl⟩
    have hw2 : Chg Non W4 V2 := by rw [hV2]; exact (Chg.refl Non W4).drew
    have HGV := Lib.hid (HG4.out.then_non hw2)
    have HTV := Lib.hid (blk_keep HT.out hw2 (fun e => e))
    clear hw2 HG4 HT hq4 hbt hzt hzs hgo HG2
    have HS : Hid (Chg Non V2 V2) := Lib.hid (Chg.refl _ _)
    refine wp_region_held_drew (S := Chg Non V2) (by kernel_rfl) (by rw [hV2]; exact Chg.refl _ _) (fun hHeld => ?_)
    clear hHeld
    rw [← hV2]
    clear hV2
    refine hp 0 75 (.int .i64 ((1 : Nat) : Int)) rfl HS.out ?_
    refine hp 1 76 (.bool true) rfl HS.out ?_
    refine hp 2 77 (.bool true) rfl HS.out ?_
    refine hp 3 78 (.slice (some ⟨q + 1, 0, none⟩) 3 3) rfl HS.out ?_
    refine hp 4 79 (.int .i64 ((1 : Nat) : Int)) rfl HS.out ?_
    refine hp 5 80 (.pointer (some ⟨q + 1, 1, none⟩)) rfl HS.out ?_
    refine hp 6 81 (.pointer (some ⟨q, 0, none⟩)) rfl HS.out ?_ (he := (fun W hW => by have hc := (HGV.out.then_non hW).cell_some (blk_cell HA.out 1 (v := .pointer (some ⟨q, 0, none⟩)) rfl) (fun e => e); go_simp))
    refine hp 7 82 (.int .i64 n) rfl HS.out ?_
    refine h_load 8 (some 83) 28 (.tmp 14) bt 0 (tagA zTag) _ rfl (by kernel_rfl) (by kernel_rfl) (by kernel_rfl) (by kernel_rfl) (by kernel_rfl) (fun _ _ _ h => h) (by kernel_rfl) (by kernel_rfl) (fun W hW => range_keepS (blk_range HTV.out) hW (fun e => e)) Tryz.underlying28 rfl (by rw [tagA_size _ zTag_len]; exact info_tag) HS.out ?_
    simp only [Act.put, sA, sB, sC]
    refine h_load 9 (some 84) 25 (.tmp 4) b0 0 #[.int .i64 s.frames, .slice A s.parts.length c, .slice A2 s.queues.length c2] _ rfl (by kernel_rfl) (by kernel_rfl) (by kernel_rfl) (by kernel_rfl) (by kernel_rfl) (fun _ _ _ h => h) (by kernel_rfl) (by kernel_rfl) (fun W hW => range_keepS (blk_range HBU.out) (HGV.out.then_non hW) (fun e => e)) Tryz.underlying25 rfl info_st HS.out ?_
    simp only [Act.put, sA, sB, sC]
    refine hp 11 86 (.int .i64 1) rfl HS.out ?_
    refine h_one 10 (by kernel_rfl) rfl (by kernel_rfl) ?_
    intro K hK
    go_simp
    refine (kPut_no I (some ⟨q, 0, none⟩) n (tagA zTag) s _ _ V2 (HVU.out.non HGV.out) (fun b hb => Nat.lt_of_lt_of_le (hI b hb) (HGU.out.then_non HGV.out).size) (fun W hW => HQ.out W (HGV.out.then_non hW))).mono ?_
    rintro e u5 ⟨rfl, hg⟩
    have HS := Lib.hid hg
    refine hK.out _ _ HS.out (fun _ => ?_)
    clear hK K hg
    try simp only [Act.put, sA, sB, sC]
    refine hp 12 87 (.bool false) rfl HS.out ?_
    refine hp 13 88 (.bool false) rfl HS.out ?_
    refine wpAnyH_done (by kernel_rfl) ?_ _
    have HN := Lib.hid (HGV.out.then_non HS.out)
    clear HS HGV HTV
    go_wp2_with fail
    exact ⟨⟨2, by omega, by simp, HN⟩, by simp [intOf]⟩
   ·have ca := HG.out.cell_some (blk_cell HA.out 2 (v := .pointer (some ⟨pd, 0, none⟩)) rfl) (fun e => e)
    go_wp2_with fail
    refine (Get_in pd ps pm (Dk.new m) wr (HDU.out.non HG.out) (by rw [dkNew_len]; have := HKm.out; omega)).mono ?_
    rintro e u2 ⟨hf, hg⟩
    obtain rfl : e = .returned (.tuple #[.int .i64 0, .agg (tagA zTag), .agg zStC, .int .i64 61]) := by
     rcases hf with ⟨h1, _⟩ | ⟨_, _, h⟩ | ⟨_, h1, _⟩ | ⟨_, h1, _⟩
     ·cases h1
     ·exact h
     ·rw [dkNew_len] at h1; have := HKm.out; omega
     ·rw [dkNew_len] at h1; have := HKm.out; omega
    clear hf
    have HG2 := Lib.hid (HG.out.then_non hg)
    clear hg ca
    obtain ⟨bt, hbt⟩ : ∃ b, u2.heap.size = b := ⟨_, rfl⟩
    have hzt : ∀ o o2, ((u2.alloc o).alloc o2).heap[bt]? = some o := fun o o2 => by rw [← hbt]; exact heap_alloc2_old _ _ _
    have hzs : ∀ o o2, ((u2.alloc o).alloc o2).heap[bt + 1]? = some o2 := fun o o2 => by rw [← hbt]; exact heap_alloc2_new _ _ _
    have hgo : ∀ o o2, Chg Non u2 ((u2.alloc o).alloc o2) := fun o o2 => ((Chg.refl Non u2).alloc o).alloc o2
    go_wp2_with (first
      | (refine sel none (.store 28 (.tmp 14) (.tmp 54)) ?_
         refine wpList_store_rowA rfl 28 (.tmp 14) (.tmp 54) rfl bt (tagA zTag) rfl rfl 28 _ (hzt _ _) (by rw [tagA_size _ zTag_len]; exact info_tag) rfl (tagA_one _) ?_
         intro W3 hg3 hb3
         have hs3 := blk_keep (hzs _ _) hg3 (fun e => by have e : bt + 1 = bt := e; omega)
         have hG3 := (hgo _ _).then_new hg3 (fun x e => by have e : x = bt := e; omega))
      | (refine sel none (.store 25 (.tmp 15) (.tmp 55)) ?_
         refine wpList_store_rowA rfl 25 (.tmp 15) (.tmp 55) rfl (bt + 1) zStC rfl rfl 25 _ hs3 info_st rfl (by kernel_rfl) ?_
         intro W4 hg4 hb4
         have HT := Lib.hid (blk_keep hb3 hg4 (fun e => by have e : bt = bt + 1 := e; omega))
         have HG4 := Lib.hid (HG2.out.then_non (hG3.then_new hg4 (fun x e => by have e : x = bt + 1 := e; omega)))
         have hq4 := blk_cell hb4 1 (v := .slice none 0 0) rfl
         clear hs3 hG3 hg3 hb3 hg4 hb4)
      | (refine sel (some 65) (.load 28 (.tmp 14)) ?_; refine wpList_loadW (some 65) 28 (.tmp 14) bt 0 (tagA zTag) _ rfl rfl (by kernel_rfl) rfl (blk_range HT.out) Tryz.underlying28 rfl (by rw [tagA_size _ zTag_len]; exact info_tag) ?_)
      | (refine sel (some 66) (.build 28 _) ?_; refine wpList_pureW (some 66) (.agg (tagA zTag)) rfl (by kernel_rfl) (by kernel_rfl) ?_)
      | (refine sel (some 67) (.binOp .neq 28 (.tmp 65) (.tmp 66) 28) ?_; refine wpList_pureW (some 67) (.bool false) rfl (by kernel_rfl) (by kernel_rfl) ?_))
    obtain ⟨V2, hV2⟩ : ∃ V2, V2 = W4.drew := ⟨_, rfl⟩
    have hw2 : Chg Non W4 V2 := by rw [hV2]; exact (Chg.refl Non W4).drew
    have HGV := Lib.hid (HG4.out.then_non hw2)
    have HTV := Lib.hid (blk_keep HT.out hw2 (fun e => e))
    clear hw2 HG4 HT hq4 hbt hzt hzs hgo HG2
    have HS : Hid (Chg Non V2 V2) := Lib.hid (Chg.refl _ _)
    refine wp_region_held_drew (S := Chg Non V2) (by kernel_rfl) (by rw [hV2]; exact Chg.refl _ _) (fun hHeld => ?_)
    clear hHeld
    rw [← hV2]
    clear hV2
    refine hp 0 75 (.int .i64 ((2 : Nat) : Int)) rfl HS.out ?_
    refine hp 1 76 (.bool false) rfl HS.out ?_
    refine hp 2 77 (.bool false) rfl HS.out ?_
    refine hs 3 78 rfl HS.out ?_
    refine hs 4 79 rfl HS.out ?_
    refine hs 5 80 rfl HS.out ?_
    refine hs 6 81 rfl HS.out ?_
    refine hs 7 82 rfl HS.out ?_
    refine hs 8 83 rfl HS.out ?_
    refine hs 9 84 rfl HS.out ?_
    refine hs 10 85 rfl HS.out ?_
    refine hs 11 86 rfl HS.out ?_
    refine hs 12 87 rfl HS.out ?_
    refine hp 13 88 (.bool false) rfl HS.out ?_
    refine wpAnyH_done (by kernel_rfl) ?_ _
    have HN := Lib.hid (HGV.out.then_non HS.out)
    clear HS HGV HTV
    go_wp2_with fail
    exact ⟨⟨3, by omega, by simp, HN⟩, by simp [intOf]⟩
   ·go_wp2_with fail
    go_ret
    exact ⟨rfl, HGU.out.then_non HG.out⟩
end
section
open Go.ChangeShapes Go.WideShapes Go.ChangeAt Go.RowKit
theorem post_below {H : Type} {enc : TypeId × Value → H} {P : Program} {f : Func} {s : ChangeSpec} {apart fresh handsOn again : Bool} {W W' : World} {args : Array Value} {v : Value} {ds gs : List (DataW H)} {before pa pv : List MemPlace}
  (hW : DataW.Whole enc P f.params.toList s.vars apart W args.toList ds gs before)
  (hres : ∀ (b : Nat) (sp : Nat → Bool) (hd : Bool), DataW.TrodAll enc P W' b sp hd f.resultTypes.toList (v.resultList f.resultTypes.size) (s.fn H (ds ++ gs)).results [])
  (hargs : ∀ sp : Nat → Bool, (∀ p ∈ before, sp p.block = true) → DataW.TrodAll enc P W' 0 sp true f.params.toList args.toList (s.fn H (ds ++ gs)).args pa)
  (hvars : ∀ sp : Nat → Bool, (∀ p ∈ before, sp p.block = true) → DataW.TrodVars enc P W' sp s.vars (s.fn H (ds ++ gs)).vars pv)
  (hps : before = pa ++ pv) (hb : Below W.heap.size W W')
  (hok : ∀ (j : Nat) (t : TypeId) (r : Value), f.resultTypes[j]? = some t → (v.resultList f.resultTypes.size)[j]? = some r → Value.okWide P W' .any 0 t r) :
  s.post enc P f apart fresh handsOn again W args v W' := by
 have hlt := hW.lt
 have hold : ∀ p ∈ before, (fun b => decide (b < W.heap.size)) p.block = true := fun p hp => by simpa using hlt p hp
 refine ⟨ds, gs, before, [], pa, pv, hW, hres _ _ _, hargs _ hold, hvars _ hold, World.keptBut_mono (fun p hp => ⟨hp, ?_⟩) (hb.frame (· ∈ before)), fun _ => ?_⟩
 ·rw [hps, List.mem_append] at hp
  exact Or.inr hp
 ·obtain ⟨_, _, _, _, _, hz, hn⟩ := hW
  refine ⟨hok, _, _, ([] ++ pa) ++ pv, ⟨[] ++ pa, pv, trodAll_append (hargs _ (fun _ _ => rfl)) (hres _ _ _), hvars _ (fun _ _ => rfl), rfl, ?_, ?_⟩, ?_⟩
  ·intro b off hp
   have hp' : MemPlace.cell b off ∈ before := by rw [hps]; simpa using hp
   rw [hb.frozen (show b < W.heap.size from hlt _ hp')]
   exact hz b off hp'
  ·intro ha
   have := hn ha
   rw [hps] at this
   simpa using this
  ·intro p hp _
   rw [hps]
   simpa using hp
end
section
open Go.ChangeShapes Go.WideShapes Go.ChangeAt Go.RowKit
section
variable {H : Type} {enc : TypeId × Value → H} {P : Program}
theorem sameAt_below {W W' : World} (hb : Below W.heap.size W W') {p : MemPlace} (hp : p.block < W.heap.size) : W.sameAt W' p := by
 cases p with
 | cell b off => exact hb.cell (p := ⟨b, off, none⟩) hp
 | map b => exact hb.block b hp
theorem trodAll_carry {W W' : World} {base : Nat} {sp : Nat → Bool} {hd : Bool} : ∀ {ts : List TypeId} {vs : List Value} {ds : List (DataW H)} {ps : List MemPlace},
  DataW.TrodAll enc P W base sp hd ts vs ds ps → (∀ p ∈ ps, W.sameAt W' p) → DataW.TrodAll enc P W' base sp hd ts vs ds ps
 | [], [], [], _, h, _ => h
 | _ :: _, _ :: _, _ :: _, _, ⟨p, q, ⟨n, h1⟩, h2, e⟩, hs =>
  ⟨p, q, ⟨n, DataW.trod_carry n _ _ _ h1 (fun x hx => hs x (by rw [e]; exact List.mem_append_left _ hx))⟩,
    trodAll_carry h2 (fun x hx => hs x (by rw [e]; exact List.mem_append_right _ hx)), e⟩
theorem post_law {f : Func} {s : ChangeSpec} {apart fresh handsOn again : Bool} {W W' : World} {args : Array Value} {tb : TypeId} {ds gs : List (DataW H)} {before : List MemPlace}
  (K : Kids P (· < P.types.size)) (hz : ∀ t e, t < P.types.size → P.underlying t = some (.slice e) → 0 < P.cellsOf e)
  (hT : ∀ t ∈ f.params.toList, t < P.types.size) (hr : f.resultTypes = #[tb]) (hub : P.underlying tb = some .bool)
  (hW : DataW.Whole enc P f.params.toList s.vars apart W args.toList ds gs before) (hv : s.vars = [])
  (hs : (s.fn H (ds ++ gs)).results = [.lit (.bool true)]) (ha : (s.fn H (ds ++ gs)).args = ds) (hv2 : (s.fn H (ds ++ gs)).vars = []) (hb : Below W.heap.size W W') :
  s.post enc P f apart fresh handsOn again W args (.bool true) W' := by
 have hW' := hW
 have hlt := hW.lt
 obtain ⟨p, q, hA, hV, rfl, hfz, hnd⟩ := hW
 rw [hv] at hV
 obtain ⟨rfl, rfl⟩ := trodVars_none hV
 rw [List.append_nil] at hlt
 refine post_below (pa := p) (pv := []) hW' ?_ ?_ ?_ rfl hb ?_
 ·intro b sp hd
  rw [hr, hs]
  exact trodAll_cons_mk (shut_bool hub _) trodAll_mk0
 ·intro sp hsp
  rw [ha]
  exact DataW.TrodAll.respare K hz hT (trodAll_carry hA (fun x hx => sameAt_below hb (hlt x hx))) (fun x hx => hsp x (by simpa using hx))
 ·intro sp _
  rw [hv, hv2]
  rfl
 ·exact ok_one hr rfl (okWide_bool_mk hub _)
end
end
section
open Go.ChangeShapes Go.WideShapes Go.ChangeAt Go.RowKit
section
variable {H : Type} {P : Program}
theorem wt_all {e : TypeId} {d : DataW H} {n : Nat} : ∀ {l : List (DataW H)}, d ∈ l → n ∈ d.weights P e → n ∈ DataW.weightsAll P e l
 | x :: r, h, hn => by
  simp only [DataW.weightsAll, List.mem_append]
  rcases List.mem_cons.1 h with rfl | h
  ·exact .inl hn
  ·exact .inr (wt_all h hn)
def SizedD (P : Program) (t : TypeId) (d : DataW H) : Prop := ∀ n ∈ d.weights P t, n ≤ reachBytes
theorem SizedD.elem {t e : TypeId} {a b : List (DataW H)} (h : SizedD P t (.slice a b)) (hu : P.underlying t = some (.slice e)) {d : DataW H} (hd : d ∈ a) : SizedD P e d := fun n hn => by
 refine h n ?_
 simp only [DataW.weights, hu, List.mem_cons, List.mem_append]
 exact .inr (.inl (wt_all hd hn))
theorem SizedD.len {t e : TypeId} {a b : List (DataW H)} (h : SizedD P t (.slice a b)) (hu : P.underlying t = some (.slice e)) : (a.length + b.length) * P.bytesOf e ≤ reachBytes := by
 refine h _ ?_
 simp only [DataW.weights, hu, List.mem_cons, true_or]
theorem SizedD.field {t : TypeId} {fs : Array Field} {parts : List (DataW H)} (h : SizedD P t (.agg parts)) (hu : P.underlying t = some (.struct fs)) {i : Nat} {f : Field} {d : DataW H} (hi : fs[i]? = some f) (hd : parts[i]? = some d) : SizedD P f.type d := fun n hn => by
 refine h n ?_
 simp only [DataW.weights, hu]
 refine DataW.weights_mem_each (j := i) (t := f.type) ?_ hd n hn
 rw [List.getElem?_map, Array.getElem?_toList, hi]
 rfl
theorem SizedD.arg {ts : List TypeId} {ds : List (DataW H)} (h : (DataW.weightsEach P ts ds).all (· ≤ reachBytes) = true) {j : Nat} {t : TypeId} {d : DataW H} (ht : ts[j]? = some t) (hd : ds[j]? = some d) : SizedD P t d := fun n hn => by
 have := List.all_eq_true.1 h _ (DataW.weights_mem_each ht hd n hn)
 simpa using this
end
section
variable {H : Type} {enc : TypeId × Value → H} {W : World}
theorem bytes_is {P : Program} {t e : TypeId} {fuel : Nat} {cs : List Value} {x : DataW H × List MemPlace} (ht : P.underlying t = some (.slice e)) (he : P.underlying e = some (.int .u8)) (hc : P.cellsOf e = 1)
  (hf : DataW.trod enc P W 0 (fun _ => true) true fuel t cs = some x) : ∃ (B : Option Addr) (l : List UInt8) (c : Nat), cs = [.slice B l.length c] ∧ Rd W B l ∧ l.length ≤ c ∧ c ≤ maxLen ∧ (P.bytesOf e = 1 → SizedD P t x.1 → c ≤ 140737488351232) := by
 rcases open_ints ht he hc hf with ⟨h0, _⟩ | ⟨a', len', cap', zs, h0, _, hl, hm, hzl, hx, hcell, hwf⟩
 ·exact ⟨none, [], 0, h0, Rd.nil _ _, Nat.le_refl _, by simp, fun _ _ => by omega⟩
 ·simp only [if_true] at hzl
  have hnum : ∀ n ∈ zs, ((UInt8.ofNat n.toNat).toNat : Int) = n := by
   intro n hn
   obtain ⟨h1, h2⟩ := bounds_u8 (hwf n hn)
   simp only [UInt8.toNat_ofNat']
   omega
  refine ⟨some a', (zs.take len').map (fun n => UInt8.ofNat n.toNat), cap', by rw [h0]; simp [hzl, Nat.min_eq_left hl], ?_, by simp [hzl, hl, Nat.min_eq_left hl], hm, ?_⟩
  ·intro i x hx
   rw [List.getElem?_map] at hx
   obtain ⟨n, hn, rfl⟩ := Option.map_eq_some_iff.1 hx
   have hi : i < (zs.take len').length := (List.getElem?_eq_some_iff.1 hn).1
   rw [List.length_take] at hi
   have hn' : zs[i]? = some n := by rw [← hn, List.getElem?_take_of_lt (by omega)]
   obtain ⟨b, off, rfl, hc2⟩ := ints_at hcell (by omega)
   refine ⟨b, off, rfl, ?_⟩
   rw [hc2 i (by omega), List.getD, hn', Option.getD_some, hnum n (List.mem_of_getElem? hn')]
  ·intro hb hs
   rw [hx] at hs
   have := hs.len ht
   rw [hb] at this
   simp only [lits, List.length_map, List.length_take, List.length_drop, Nat.mul_one, reachBytes] at this
   omega
end
end
section
open Go.ChangeShapes Go.WideShapes Go.ChangeAt Go.RowKit
theorem list_of {α : Type} (n : Nat) (P : Nat → α → Prop) (h : ∀ i, i < n → ∃ r, P i r) : ∃ l : List α, l.length = n ∧ ∀ i r, l[i]? = some r → P i r := by
 induction n with
 | zero => exact ⟨[], rfl, fun i r h => by simp at h⟩
 | succ n ih =>
  obtain ⟨l, hl, hp⟩ := ih (fun i hi => h i (by omega))
  obtain ⟨r, hr⟩ := h n (by omega)
  refine ⟨l ++ [r], by simp [hl], fun i x hx => ?_⟩
  by_cases hi : i < n
  ·exact hp i x (by rw [← hx, List.getElem?_append_left (by omega)])
  ·rw [List.getElem?_append_right (by omega)] at hx
   have hi0 : i - l.length = 0 := by
    have := (List.getElem?_eq_some_iff.1 hx).1
    simp at this
    omega
   rw [hi0] at hx
   simp at hx
   subst hx
   have : i = n := by omega
   rw [this]; exact hr
theorem one_of_take {cs : List Value} {k : Nat} {v : Value} (h : (cs.drop k).take 1 = [v]) : cs[k]? = some v := by
 have h1 : ((cs.drop k).take 1)[0]? = some v := by rw [h]; rfl
 rw [List.getElem?_take_of_lt (by omega), List.getElem?_drop, Nat.add_zero] at h1
 exact h1
theorem u8_nat {k : Int} (h : (Lit.int .u8 k).wf = true) : ∃ n : Nat, k = n ∧ n < 256 := by
 obtain ⟨h1, h2⟩ := bounds_u8 h
 exact ⟨k.toNat, by omega, by omega⟩
section
variable {H : Type} {enc : TypeId × Value → H} {W : World}
theorem row_len {P : Program} {t e : TypeId} {fuel : Nat} {cs : List Value} {x : DataW H × List MemPlace} {A : Option Addr} {n c : Nat} (ht : P.underlying t = some (.slice e)) (hb : 1 ≤ P.bytesOf e) (h : DataW.trod enc P W 0 (fun _ => true) true fuel t cs = some x) (hsz : SizedD P t x.1) (hcs : cs = [.slice A n c]) : n ≤ 140737488351232 := by
 rcases Go.Deep.open_slice ht h with ⟨h0, _⟩ | ⟨a', len', cap', m, n', Dd, Pl, h0', _, hl, hm, hmm, hdx, hcell⟩
 ·rw [hcs] at h0; injection h0 with h0; injection h0 with _ h0 _; omega
 ·rw [hcs] at h0'
  injection h0' with h0'
  injection h0' with _ h1 _
  rw [hdx] at hsz
  have := hsz.len ht
  simp only [List.length_map, List.length_range] at this
  simp only [reachBytes] at this
  have h3 : len' ≤ (len' + (m - len')) * P.bytesOf e := Nat.le_trans (Nat.le_add_right _ _) (Nat.le_mul_of_pos_right _ (by omega))
  omega
theorem row_is {P : Program} {t e : TypeId} {α : Type} (R : World → α → List Value → Prop) (sz : Nat) (h0 : 0 < sz) (ht : P.underlying t = some (.slice e)) (hc : P.cellsOf e = sz)
  (helem : ∀ (fuel : Nat) (cs : List Value) (x : DataW H × List MemPlace), DataW.trod enc P W 0 (fun _ => true) true fuel e cs = some x → SizedD P e x.1 → ∃ a : α, cs.length = sz ∧ R W a cs)
  {fuel : Nat} {cs : List Value} {x : DataW H × List MemPlace} (h : DataW.trod enc P W 0 (fun _ => true) true fuel t cs = some x) (hsz : SizedD P t x.1) :
  ∃ (A : Option Addr) (l : List α) (c : Nat), cs = [.slice A l.length c] ∧ RdL R (fun _ => True) sz W A l ∧ l.length ≤ c ∧ c ≤ maxLen := by
 rcases Go.Deep.open_slice ht h with ⟨h0, _⟩ | ⟨a', len', cap', m, n, Dd, Pl, h0', _, hl, hm, hmm, hdx, hcell⟩
 ·exact ⟨none, [], 0, h0, fun i r h => by simp at h, Nat.le_refl _, by simp⟩
 ·simp only [if_true] at hmm
  rw [hdx] at hsz
  obtain ⟨l, hll, hlp⟩ := list_of len' (fun i (r : α) => ∃ cs', W.cells? 0 (a'.add (i * sz)) sz = some cs' ∧ cs'.length = sz ∧ R W r cs') (fun i hi => by
    obtain ⟨cs', h1, h2⟩ := hcell i (by omega)
    rw [hc] at h1
    obtain ⟨r, hr, ho⟩ := helem _ _ _ h2 (hsz.elem ht (List.mem_map.2 ⟨i, List.mem_range.2 hi, rfl⟩))
    exact ⟨r, cs', h1, hr, ho⟩)
  refine ⟨some a', l, cap', by rw [hll]; exact h0', ?_, by omega, hm⟩
  intro i r hr
  have hpos : 0 < l.length := by have := (List.getElem?_eq_some_iff.1 hr).1; omega
  obtain ⟨cs', h1, hl', ho⟩ := hlp i r hr
  obtain ⟨cs0, h10, hl0, _⟩ := hlp 0 l[0] (List.getElem?_eq_getElem hpos)
  obtain ⟨_, _, hcc⟩ := World.cells?_some h1
  obtain ⟨_, _, hc0⟩ := World.cells?_some h10
  have h00 := hc0 0 (by omega)
  rw [List.getElem?_eq_getElem (by omega)] at h00
  obtain ⟨b, off, spot⟩ := a'
  have hspot : spot = none := by
   have := World.cell?_spot h00
   simpa [Addr.add] using this
  subst hspot
  refine ⟨b, off, cs', rfl, trivial, hl', fun j v hv => ?_, ho⟩
  have hj : j < sz := by have := (List.getElem?_eq_some_iff.1 hv).1; omega
  have := hcc j hj
  rw [Go.WideShapes.add_plain, Go.WideShapes.add_plain] at this
  rw [this]
  exact hv
variable {base : Nat} {sp : Nat → Bool} {hd : Bool}
set_option maxRecDepth 100000 in
theorem open_i64 {r0 : Reach} {b0 : Nat} {v : Value} {d : DataW H} {ps : List MemPlace} (hval : Value.okWide Tryz.prog W r0 b0 3 v) (h : DataW.Trod enc Tryz.prog W base sp hd 3 v d ps) : ∃ n : Int, v = .int .i64 n ∧ -9223372036854775808 ≤ n ∧ n ≤ 9223372036854775807 := by
 obtain ⟨k, rfl, _, _, hw⟩ := open_int Tryz.underlying3 hval h
 exact ⟨k, rfl, _root_.Go.bounds_i64 hw⟩
theorem u32_nat {k : Int} (h : (Lit.int .u32 k).wf = true) : ∃ n : Nat, k = n ∧ n < 4294967296 := by
 obtain ⟨h1, h2⟩ := bounds_u32 h
 exact ⟨k.toNat, by omega, by omega⟩
set_option maxRecDepth 100000 in
theorem regs_cells {fuel : Nat} {cs : List Value} {x : DataW H × List MemPlace} (h : DataW.trod enc Tryz.prog W 0 (fun _ => true) true fuel 102 cs = some x) : ∀ i, i < 8 → ∃ b : Nat, cs[i]? = some (.int .u32 b) ∧ b < 4294967296 := by
 obtain ⟨xs, m, _, _, hl, hxl, hx⟩ := DataW.trod_array Tryz.underlying102 h
 have c8 : Tryz.prog.cellsOf 102 = 8 := by kernel_rfl
 have c1 : Tryz.prog.cellsOf 76 = 1 := by kernel_rfl
 rw [c8] at hl
 intro i hi
 have hq := hx i hi
 rw [c1, Nat.mul_one, List.getElem?_eq_getElem (by omega)] at hq
 obtain ⟨k, hk, _, hw⟩ := DataW.trod_int Tryz.underlying76 hq
 obtain ⟨n, rfl, hn⟩ := u32_nat hw
 exact ⟨n, one_of_take hk, hn⟩
theorem msg_cells {fuel : Nat} {cs : List Value} {x : DataW H × List MemPlace} (h : DataW.trod enc Tryz.prog W 0 (fun _ => true) true fuel 29 cs = some x) (hsz : SizedD Tryz.prog 29 x.1) : ∃ a : List UInt8, cs.length = 1 ∧ (msgV (fun _ => True)) W a cs := by
 obtain ⟨B, l, c, rfl, r, u, v, s⟩ := bytes_is Tryz.underlying29 Tryz.underlying5 (by kernel_rfl) h
 have s := s (by kernel_rfl) hsz
 exact ⟨l, rfl, _, rfl, ⟨B, c, rfl, u, v, r, fun _ _ _ _ => trivial⟩, Nat.le_trans u s⟩
set_option maxRecDepth 100000 in
theorem qu_cells {fuel : Nat} {cs : List Value} {x : DataW H × List MemPlace} (h : DataW.trod enc Tryz.prog W 0 (fun _ => true) true fuel 110 cs = some x) (hsz : SizedD Tryz.prog 110 x.1) : ∃ a : Qu, cs.length = 6 ∧ (quV (fun _ => True)) W a cs := by
 obtain ⟨xs, n, _, hxe, hl, hxl, hx⟩ := DataW.trod_struct Tryz.underlying110 h
 rw [hxe] at hsz
 have hl' : cs.length = 6 := hl.trans (by kernel_rfl)
 have hxl' : xs.length = 2 := hxl
 have q0 : DataW.trod enc Tryz.prog W 0 (fun _ => true) true n 107 ((cs.drop 0).take (Tryz.prog.cellsOf 107)) = xs[0]? := hx 0 _ rfl
 rw [List.getElem?_eq_getElem (by omega), show Tryz.prog.cellsOf 107 = 5 by kernel_rfl] at q0
 have q1 : DataW.trod enc Tryz.prog W 0 (fun _ => true) true n 108 ((cs.drop 5).take (Tryz.prog.cellsOf 108)) = xs[1]? := hx 1 _ rfl
 rw [List.getElem?_eq_getElem (by omega), show Tryz.prog.cellsOf 108 = 1 by kernel_rfl] at q1
 obtain ⟨B1, f1, c1, g1, r1, u1, v1⟩ := row_is (msgV (fun _ => True)) 1 (by decide) Tryz.underlying108 (by kernel_rfl) (fun _ _ _ => msg_cells) q1 (hsz.field Tryz.underlying110 (i := 1) rfl (by rw [List.getElem?_map, List.getElem?_eq_getElem (by omega)]; rfl))
 have s1 : f1.length ≤ 140737488351232 := row_len Tryz.underlying108 (Nat.le_of_ble_eq_true (by kernel_rfl)) q1 (hsz.field Tryz.underlying110 (i := 1) rfl (by rw [List.getElem?_map, List.getElem?_eq_getElem (by omega)]; rfl)) g1
 have e5 := one_of_take g1
 obtain ⟨ys, n2, _, _, hyl, hyl2, hy⟩ := DataW.trod_struct Tryz.underlying107 q0
 have hyl' : ys.length = 5 := hyl2
 have p0 : DataW.trod enc Tryz.prog W 0 (fun _ => true) true n2 3 ((((cs.drop 0).take 5).drop 0).take (Tryz.prog.cellsOf 3)) = ys[0]? := hy 0 _ rfl
 rw [List.getElem?_eq_getElem (by omega), show Tryz.prog.cellsOf 3 = 1 by kernel_rfl] at p0
 obtain ⟨z0, k0, _, b0'⟩ := DataW.trod_int Tryz.underlying3 p0
 have b0 := _root_.Go.bounds_i64 b0'
 have e0 := one_of_take k0
 rw [List.getElem?_take_of_lt (by omega), List.getElem?_drop] at e0
 have p1 : DataW.trod enc Tryz.prog W 0 (fun _ => true) true n2 3 ((((cs.drop 0).take 5).drop 1).take (Tryz.prog.cellsOf 3)) = ys[1]? := hy 1 _ rfl
 rw [List.getElem?_eq_getElem (by omega), show Tryz.prog.cellsOf 3 = 1 by kernel_rfl] at p1
 obtain ⟨z1, k1, _, b1'⟩ := DataW.trod_int Tryz.underlying3 p1
 have b1 := _root_.Go.bounds_i64 b1'
 have e1 := one_of_take k1
 rw [List.getElem?_take_of_lt (by omega), List.getElem?_drop] at e1
 have p2 : DataW.trod enc Tryz.prog W 0 (fun _ => true) true n2 3 ((((cs.drop 0).take 5).drop 2).take (Tryz.prog.cellsOf 3)) = ys[2]? := hy 2 _ rfl
 rw [List.getElem?_eq_getElem (by omega), show Tryz.prog.cellsOf 3 = 1 by kernel_rfl] at p2
 obtain ⟨z2, k2, _, b2'⟩ := DataW.trod_int Tryz.underlying3 p2
 have b2 := _root_.Go.bounds_i64 b2'
 have e2 := one_of_take k2
 rw [List.getElem?_take_of_lt (by omega), List.getElem?_drop] at e2
 have p3 : DataW.trod enc Tryz.prog W 0 (fun _ => true) true n2 3 ((((cs.drop 0).take 5).drop 3).take (Tryz.prog.cellsOf 3)) = ys[3]? := hy 3 _ rfl
 rw [List.getElem?_eq_getElem (by omega), show Tryz.prog.cellsOf 3 = 1 by kernel_rfl] at p3
 obtain ⟨z3, k3, _, b3'⟩ := DataW.trod_int Tryz.underlying3 p3
 have b3 := _root_.Go.bounds_i64 b3'
 have e3 := one_of_take k3
 rw [List.getElem?_take_of_lt (by omega), List.getElem?_drop] at e3
 have p4 : DataW.trod enc Tryz.prog W 0 (fun _ => true) true n2 3 ((((cs.drop 0).take 5).drop 4).take (Tryz.prog.cellsOf 3)) = ys[4]? := hy 4 _ rfl
 rw [List.getElem?_eq_getElem (by omega), show Tryz.prog.cellsOf 3 = 1 by kernel_rfl] at p4
 obtain ⟨z4, k4, _, b4'⟩ := DataW.trod_int Tryz.underlying3 p4
 have b4 := _root_.Go.bounds_i64 b4'
 have e4 := one_of_take k4
 rw [List.getElem?_take_of_lt (by omega), List.getElem?_drop] at e4
 match cs, hl', e0, e1, e2, e3, e4, e5 with
 | [w0, w1, w2, w3, w4, w5], _, e0, e1, e2, e3, e4, e5 =>
  simp only [List.getElem?_cons_zero, List.getElem?_cons_succ, Option.some.injEq, Nat.reduceAdd] at e0 e1 e2 e3 e4 e5
  subst e0 e1 e2 e3 e4 e5
  exact ⟨⟨⟨z0, z1, z2, z3, z4⟩, f1⟩, rfl, _, rfl, ⟨B1, c1, rfl, u1, v1, r1⟩, ⟨b0, b1, b2, b3, b4⟩, s1⟩
set_option maxRecDepth 100000 in
theorem part_cells {fuel : Nat} {cs : List Value} {x : DataW H × List MemPlace} (h : DataW.trod enc Tryz.prog W 0 (fun _ => true) true fuel 104 cs = some x) (hsz : SizedD Tryz.prog 104 x.1) : ∃ a : Pt, cs.length = 14 ∧ (ptV (fun _ => True)) W a cs := by
 obtain ⟨xs, m, _, hxe, hl, hxl, hx⟩ := DataW.trod_struct Tryz.underlying104 h
 rw [hxe] at hsz
 have c14 : Tryz.prog.cellsOf 104 = 14 := by kernel_rfl
 have hl' : cs.length = 14 := by rw [hl, c14]
 have hxl' : xs.length = 7 := hxl
 have q0 : DataW.trod enc Tryz.prog W 0 (fun _ => true) true m 3 ((cs.drop 0).take (Tryz.prog.cellsOf 3)) = xs[0]? := hx 0 _ rfl
 have q1 : DataW.trod enc Tryz.prog W 0 (fun _ => true) true m 3 ((cs.drop 1).take (Tryz.prog.cellsOf 3)) = xs[1]? := hx 1 _ rfl
 have q2 : DataW.trod enc Tryz.prog W 0 (fun _ => true) true m 4 ((cs.drop 2).take (Tryz.prog.cellsOf 4)) = xs[2]? := hx 2 _ rfl
 have q3 : DataW.trod enc Tryz.prog W 0 (fun _ => true) true m 102 ((cs.drop 3).take (Tryz.prog.cellsOf 102)) = xs[3]? := hx 3 _ rfl
 have q4 : DataW.trod enc Tryz.prog W 0 (fun _ => true) true m 76 ((cs.drop 11).take (Tryz.prog.cellsOf 76)) = xs[4]? := hx 4 _ rfl
 have q5 : DataW.trod enc Tryz.prog W 0 (fun _ => true) true m 5 ((cs.drop 12).take (Tryz.prog.cellsOf 5)) = xs[5]? := hx 5 _ rfl
 have q6 : DataW.trod enc Tryz.prog W 0 (fun _ => true) true m 29 ((cs.drop 13).take (Tryz.prog.cellsOf 29)) = xs[6]? := hx 6 _ rfl
 rw [List.getElem?_eq_getElem (by omega)] at q0 q1 q2 q3 q4 q5 q6
 have k1 : Tryz.prog.cellsOf 3 = 1 := by kernel_rfl
 have k2 : Tryz.prog.cellsOf 4 = 1 := by kernel_rfl
 have k3 : Tryz.prog.cellsOf 102 = 8 := by kernel_rfl
 have k4 : Tryz.prog.cellsOf 76 = 1 := by kernel_rfl
 have k5 : Tryz.prog.cellsOf 5 = 1 := by kernel_rfl
 have k6 : Tryz.prog.cellsOf 29 = 1 := by kernel_rfl
 rw [k1] at q0 q1
 rw [k2] at q2
 rw [k3] at q3
 rw [k4] at q4
 rw [k5] at q5
 rw [k6] at q6
 obtain ⟨i0, h0, _, w0⟩ := DataW.trod_int Tryz.underlying3 q0
 obtain ⟨i1, h1, _, w1⟩ := DataW.trod_int Tryz.underlying3 q1
 obtain ⟨b2, h2, _⟩ := DataW.trod_bool Tryz.underlying4 q2
 have hreg := regs_cells q3
 obtain ⟨i4, h4, _, w4⟩ := DataW.trod_int Tryz.underlying76 q4
 obtain ⟨i5, h5, _, w5⟩ := DataW.trod_int Tryz.underlying5 q5
 obtain ⟨B, l, c, h6, hrd, hlc, hcm, hss⟩ := bytes_is Tryz.underlying29 Tryz.underlying5 (by kernel_rfl) q6
 have hss := hss (by kernel_rfl) (hsz.field Tryz.underlying104 (i := 6) rfl (by rw [List.getElem?_map, List.getElem?_eq_getElem (by omega)]; rfl))
 have bi0 := _root_.Go.bounds_i64 w0
 have bi1 := _root_.Go.bounds_i64 w1
 obtain ⟨pc, rfl, bpc⟩ := u32_nat w4
 obtain ⟨st, rfl, bst⟩ := u8_nat w5
 have g0 := one_of_take h0
 have g1 := one_of_take h1
 have g2 := one_of_take h2
 have g4 := one_of_take h4
 have g5 := one_of_take h5
 have g6 := one_of_take h6
 have hr : ∀ i, i < 8 → ∃ b : Nat, cs[3 + i]? = some (.int .u32 b) ∧ b < 4294967296 := by
  intro i hi
  obtain ⟨b, hb, hb2⟩ := hreg i hi
  rw [List.getElem?_take_of_lt hi, List.getElem?_drop] at hb
  exact ⟨b, hb, hb2⟩
 obtain ⟨r0, e0, f0⟩ := hr 0 (by omega)
 obtain ⟨r1, e1, f1⟩ := hr 1 (by omega)
 obtain ⟨r2, e2, f2⟩ := hr 2 (by omega)
 obtain ⟨r3, e3, f3⟩ := hr 3 (by omega)
 obtain ⟨r4, e4, f4⟩ := hr 4 (by omega)
 obtain ⟨r5, e5, f5⟩ := hr 5 (by omega)
 obtain ⟨r6, e6, f6⟩ := hr 6 (by omega)
 obtain ⟨r7, e7, f7⟩ := hr 7 (by omega)
 refine ⟨⟨i0, i1, b2, [r0, r1, r2, r3, r4, r5, r6, r7], pc, st, l⟩, hl', .slice B l.length c, ?_, ⟨B, c, rfl, hlc, hcm, hrd, fun _ _ _ _ => trivial⟩, ⟨rfl, ?_, bpc, bst, bi0, bi1⟩, Nat.le_trans hlc hss⟩
 ·clear q0 q1 q2 q3 q4 q5 q6 hx hreg hr h0 h1 h2 h4 h5 h6 h
  match cs, hl', g0, g1, g2, g4, g5, g6, e0, e1, e2, e3, e4, e5, e6, e7 with
  | [v0, v1, v2, v3, v4, v5, v6, v7, v8, v9, v10, v11, v12, v13], _, g0, g1, g2, g4, g5, g6, e0, e1, e2, e3, e4, e5, e6, e7 =>
   simp only [List.getElem?_cons_zero, List.getElem?_cons_succ, Option.some.injEq, Nat.reduceAdd] at g0 g1 g2 g4 g5 g6 e0 e1 e2 e3 e4 e5 e6 e7
   subst g0 g1 g2 g4 g5 g6 e0 e1 e2 e3 e4 e5 e6 e7
   rfl
 ·intro i
  show [r0, r1, r2, r3, r4, r5, r6, r7].getD i 0 < 4294967296
  match i with
  | 0 => exact f0
  | 1 => exact f1
  | 2 => exact f2
  | 3 => exact f3
  | 4 => exact f4
  | 5 => exact f5
  | 6 => exact f6
  | 7 => exact f7
  | n + 8 => simp
set_option maxRecDepth 100000 in
theorem sta_cells {fuel : Nat} {cs : List Value} {x : DataW H × List MemPlace} (h : DataW.trod enc Tryz.prog W 0 (fun _ => true) true fuel 25 cs = some x) (hsz : SizedD Tryz.prog 25 x.1) :
  ∃ (s : Sta) (vb vd : Value), cs = [.int .i64 s.frames, vb, vd] ∧ I64 s.frames ∧ StaV (fun b => b < W.heap.size) W s vb vd := by
 obtain ⟨xs, n, _, hxe, hl, hxl, hx⟩ := DataW.trod_struct Tryz.underlying25 h
 rw [hxe] at hsz
 have hl' : cs.length = 3 := hl.trans (by kernel_rfl)
 have hxl' : xs.length = 3 := hxl
 have q0 : DataW.trod enc Tryz.prog W 0 (fun _ => true) true n 3 ((cs.drop 0).take (Tryz.prog.cellsOf 3)) = xs[0]? := hx 0 _ rfl
 rw [List.getElem?_eq_getElem (by omega), show Tryz.prog.cellsOf 3 = 1 by kernel_rfl] at q0
 obtain ⟨z0, k0, _, b0'⟩ := DataW.trod_int Tryz.underlying3 q0
 have b0 := _root_.Go.bounds_i64 b0'
 have e0 := one_of_take k0
 have q1 : DataW.trod enc Tryz.prog W 0 (fun _ => true) true n 22 ((cs.drop 1).take (Tryz.prog.cellsOf 22)) = xs[1]? := hx 1 _ rfl
 rw [List.getElem?_eq_getElem (by omega), show Tryz.prog.cellsOf 22 = 1 by kernel_rfl] at q1
 obtain ⟨A1, l1, c1, g1, r1, u1, v1⟩ := row_is (ptV (fun _ => True)) 14 (by decide) Tryz.underlying22 (by kernel_rfl) (fun _ _ _ => part_cells) q1 (hsz.field Tryz.underlying25 (i := 1) rfl (by rw [List.getElem?_map, List.getElem?_eq_getElem (by omega)]; rfl))
 have e1 := one_of_take g1
 have q2 : DataW.trod enc Tryz.prog W 0 (fun _ => true) true n 23 ((cs.drop 2).take (Tryz.prog.cellsOf 23)) = xs[2]? := hx 2 _ rfl
 rw [List.getElem?_eq_getElem (by omega), show Tryz.prog.cellsOf 23 = 1 by kernel_rfl] at q2
 obtain ⟨A2, l2, c2, g2, r2, u2, v2⟩ := row_is (quV (fun _ => True)) 6 (by decide) Tryz.underlying23 (by kernel_rfl) (fun _ _ _ => qu_cells) q2 (hsz.field Tryz.underlying25 (i := 2) rfl (by rw [List.getElem?_map, List.getElem?_eq_getElem (by omega)]; rfl))
 have e2 := one_of_take g2
 match cs, hl', e0, e1, e2 with
 | [a, b, c], _, e0, e1, e2 =>
  simp only [List.getElem?_cons_zero, List.getElem?_cons_succ, Option.some.injEq] at e0 e1 e2
  subst e0 e1 e2
  have hp : SlV (ptV fun _ => True) (fun _ => True) 14 W l1 (.slice A1 l1.length c1) := ⟨A1, c1, rfl, u1, v1, r1⟩
  have hq : SlV (quV fun _ => True) (fun _ => True) 6 W l2 (.slice A2 l2.length c2) := ⟨A2, c2, rfl, u2, v2, r2⟩
  refine ⟨⟨z0, l1, l2⟩, _, _, rfl, b0, ?_, ?_⟩
  ·exact (hp.bound (by omega) (fun _ _ _ h => h.bound)).mono (fun b h => h.2) (fun a vs _ h => h.mono (fun b h => h.2))
  ·exact (hq.bound (by omega) (fun _ _ _ h => h.bound)).mono (fun b h => h.2) (fun a vs _ h => h.mono (fun b h => h.2))
set_option maxRecDepth 100000 in
theorem open_sta {r0 : Reach} {b0 : Nat} {v : Value} {d : DataW H} {ps : List MemPlace} (hval : Value.okWide Tryz.prog W r0 b0 25 v) (h : DataW.Trod enc Tryz.prog W 0 (fun _ => true) true 25 v d ps) (hsz : SizedD Tryz.prog 25 d) :
  ∃ (s : Sta) (vb vd : Value), v = .agg #[.int .i64 s.frames, vb, vd] ∧ I64 s.frames ∧ StaV (fun b => b < W.heap.size) W s vb vd := by
 obtain ⟨cs, rfl, _⟩ := okWide_struct Tryz.underlying25 hval
 obtain ⟨fuel, hf⟩ := h
 obtain ⟨s, vb, vd, hr, ho⟩ := sta_cells hf hsz
 refine ⟨s, vb, vd, ?_, ho⟩
 congr 1
 exact Array.toList_inj.1 hr
end
end
end Go.Proofs.YtkgnlobabknkcaaGreat
