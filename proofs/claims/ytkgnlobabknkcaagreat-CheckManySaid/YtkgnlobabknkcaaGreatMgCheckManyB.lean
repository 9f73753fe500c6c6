/- The law CheckMany. (Written by wip/gen_ckm.py.) -/
import Derived.Test.YtkgnlobabknkcaaGreatMgCheckBaseA
import Derived.Test.YtkgnlobabknkcaaGreatMgCheckBaseB
import Derived.Test.YtkgnlobabknkcaaGreatMgCheckBaseC
import Derived.Test.YtkgnlobabknkcaaGreatMgCheckBaseD
import Derived.Test.YtkgnlobabknkcaaGreatMgCheckBaseE
import Derived.Test.YtkgnlobabknkcaaGreatMgCheckBaseF
import Derived.Test.YtkgnlobabknkcaaGreatMgCheckBaseG
import Derived.Test.YtkgnlobabknkcaaGreatMgCheckBaseH
import Derived.Test.YtkgnlobabknkcaaGreatMgCheckBaseI
import Derived.Test.YtkgnlobabknkcaaGreatMgCheckBaseJ
import Derived.Test.YtkgnlobabknkcaaGreatMgCheckBaseK
import Derived.Test.YtkgnlobabknkcaaGreatMgCheckBaseL
import Derived.Test.YtkgnlobabknkcaaGreatMgCheckBaseM
import Derived.Test.YtkgnlobabknkcaaGreatMgCheckBaseN
import Derived.Test.YtkgnlobabknkcaaGreatMgCheckBaseO
import Derived.Test.YtkgnlobabknkcaaGreatMgCheckBaseP
import Derived.Test.YtkgnlobabknkcaaGreatMgCheckBaseQ
import Derived.Test.YtkgnlobabknkcaaGreatMgCheckBaseR
import Derived.Test.YtkgnlobabknkcaaGreatMgCheckBaseS
import Derived.Test.YtkgnlobabknkcaaGreatMgCheckBaseShelf
import Derived.Test.YtkgnlobabknkcaaGreatMgCheckBaseT
import Derived.Test.YtkgnlobabknkcaaGreatMgCheckBaseU
import Derived.Test.YtkgnlobabknkcaaGreatMgCheckManyA
namespace Go.Proofs.YtkgnlobabknkcaaGreat
set_option linter.unusedVariables false
set_option linter.unusedSimpArgs false
set_option maxHeartbeats 8000000
open Go.RowKit Go.Shelf
attribute [local go_sem] Oper.semAt_some

set_option maxRecDepth 100000 in
theorem checkMany_walk (I : Nat → Prop) (a b : Sta) (va1 va2 vb1 vb2 : Value) (n m : Int) (w : World) (ha : StaV I w a va1 va2) (hb : StaV I w b vb1 vb2) (hI : ∀ b, I b → b < w.heap.size) (him : I64 m) :
  Calls Tryz.prog 7 #[.agg #[.int .i64 a.frames, va1, va2], .agg #[.int .i64 b.frames, vb1, vb2], .int .i64 n, .int .i64 m] w fun e w' => e = .returned (.bool true) ∧ Chg Non w w' := by
 have HVa := Lib.hid ha
 have HVb := Lib.hid hb
 obtain ⟨⟨A1, c1, rfl, _, _, _⟩, ⟨A2, c2, rfl, _, _, _⟩⟩ := ha
 obtain ⟨⟨A3, c3, rfl, _, _, _⟩, ⟨A4, c4, rfl, _, _, _⟩⟩ := hb
 go_enter Tryz.func7, Tryz.ntmps7
 go_wp2_with fail
 have hb5 := al_2_1 w (.cells #[.int .i64 a.frames, .slice A1 a.parts.length c1, .slice A2 a.queues.length c2] 25) (.cells #[.int .i64 b.frames, .slice A3 b.parts.length c3, .slice A4 b.queues.length c4] 25)
 have hb4 := al_2_0 w (.cells #[.int .i64 a.frames, .slice A1 a.parts.length c1, .slice A2 a.queues.length c2] 25) (.cells #[.int .i64 b.frames, .slice A3 b.parts.length c3, .slice A4 b.queues.length c4] 25)
 obtain ⟨W0, hW0⟩ : ∃ W0, (w.alloc (.cells #[.int .i64 a.frames, .slice A1 a.parts.length c1, .slice A2 a.queues.length c2] 25)).alloc (.cells #[.int .i64 b.frames, .slice A3 b.parts.length c3, .slice A4 b.queues.length c4] 25) = W0 := ⟨_, rfl⟩
 have hg0 : Chg Non w W0 := by rw [← hW0]; exact ((Chg.refl Non w).alloc _).alloc _
 rw [hW0] at hb4 hb5 ⊢
 clear hW0
 obtain ⟨b4, hbe⟩ : ∃ x, w.heap.size = x := ⟨_, rfl⟩
 rw [hbe] at hb4 hb5 ⊢
 clear hbe
 refine (awake_ok W0).mono ?_
 rintro e u0 ⟨rfl, hgu⟩
 have HBa := Lib.hid (blk_keep hb4 hgu (fun e => e))
 have HBb := Lib.hid (blk_keep hb5 hgu (fun e => e))
 have HGu := Lib.hid (hg0.then_non hgu)
 clear hb4 hb5 hg0 hgu
 go_wp2_with fail
 obtain ⟨V, hV⟩ : ∃ V, V = u0.drew := ⟨_, rfl⟩
 have hgV : Chg Non u0 V := by rw [hV]; exact (Chg.refl Non u0).drew
 have HGV := Lib.hid (HGu.out.then_non hgV)
 have HBaV := Lib.hid (blk_keep HBa.out hgV (fun e => e))
 have HBbV := Lib.hid (blk_keep HBb.out hgV (fun e => e))
 have HRa := Lib.hid (blk_range HBaV.out)
 have HRb := Lib.hid (blk_range HBbV.out)
 have HWa := Lib.hid (fun W (hg : Chg Non V W) => weight_any I a _ _ W (HVa.out.non (HGV.out.then_non hg)))
 have HWb := Lib.hid (fun W (hg : Chg Non V W) => weight_any I b _ _ W (HVb.out.non (HGV.out.then_non hg)))
 have HMa := Lib.hid (fun W (hg : Chg Non V W) => smay_ok I a _ _ W (HVa.out.non (HGV.out.then_non hg)))
 have HMb := Lib.hid (fun W (hg : Chg Non V W) => smay_ok I b _ _ W (HVb.out.non (HGV.out.then_non hg)))
 have HS : Hid (Chg Non V V) := Lib.hid (Chg.refl _ _)
 refine wp_region_held_drew (S := Chg Non V) (by kernel_rfl) (by rw [hV]; exact Chg.refl _ _) (fun hHeld => ?_)
 clear hHeld
 rw [← hV]
 clear hV hgV
 refine h_load 0 (some 20) 25 (.tmp 4) b4 0 #[.int .i64 a.frames, .slice A1 a.parts.length c1, .slice A2 a.queues.length c2] _ rfl (by kernel_rfl) (by kernel_rfl) (by kernel_rfl) (by kernel_rfl) (by kernel_rfl) (fun _ _ _ h => h) (by kernel_rfl) (by kernel_rfl) (fun W hW => range_keepS HRa.out hW (fun e => e)) Tryz.underlying25 rfl info_st HS.out ?_
 try simp only [Act.put, sA, sB, sC]
 refine h_load 2 (some 22) 25 (.tmp 5) (b4 + 1) 0 #[.int .i64 b.frames, .slice A3 b.parts.length c3, .slice A4 b.queues.length c4] _ rfl (by kernel_rfl) (by kernel_rfl) (by kernel_rfl) (by kernel_rfl) (by kernel_rfl) (fun _ _ _ h => h) (by kernel_rfl) (by kernel_rfl) (fun W hW => range_keepS HRb.out hW (fun e => e)) Tryz.underlying25 rfl info_st HS.out ?_
 try simp only [Act.put, sA, sB, sC]
 refine h_one 1 (by kernel_rfl) rfl (by kernel_rfl) ?_
 intro K hK
 go_simp
 refine (HWa.out _ HS.out).mono ?_
 rintro e w1 ⟨x, rfl, hgu⟩
 have HS1 := Lib.hid (HS.out.then_non hgu)
 refine hK.out _ _ HS1.out (fun _ => ?_)
 clear hK K hgu
 try simp only [Act.put, sA, sB, sC]
 refine h_one 3 (by kernel_rfl) rfl (by kernel_rfl) ?_
 intro K hK
 go_simp
 refine (HWb.out _ HS1.out).mono ?_
 rintro e w3 ⟨y, rfl, hgu⟩
 have HS2 := Lib.hid (HS1.out.then_non hgu)
 refine hK.out _ _ HS2.out (fun _ => ?_)
 clear hK K hgu
 try simp only [Act.put, sA, sB, sC]
 obtain ⟨z, hz⟩ : ∃ z, IntKind.i64.wrap (x + y) = z := ⟨_, rfl⟩
 refine hp 4 24 (.int .i64 z) rfl HS2.out ?_
 clear hz
 by_cases hz : z > 12000
 ·have hzd : decide (z > 12000) = true := by rw [decide_eq_true_eq]; exact hz
  refine hp 5 25 (.bool true) rfl HS2.out ?_
  refine hp 6 26 (.bool true) rfl HS2.out ?_
  refine hs 7 27 rfl HS2.out ?_
  refine hs 8 28 rfl HS2.out ?_
  refine hp 9 29 (.bool true) rfl HS2.out ?_
  refine hp 10 30 (.bool true) rfl HS2.out ?_
  refine hs 11 31 rfl HS2.out ?_
  refine hs 12 32 rfl HS2.out ?_
  refine hp 13 33 (.bool true) rfl HS2.out ?_
  refine hp 14 34 (.bool true) rfl HS2.out ?_
  refine hs 15 35 rfl HS2.out ?_
  refine hs 16 36 rfl HS2.out ?_
  refine hp 17 37 (.bool true) rfl HS2.out ?_
  refine hp 18 38 (.bool true) rfl HS2.out ?_
  refine hs 19 39 rfl HS2.out ?_
  refine hs 20 40 rfl HS2.out ?_
  refine hs 21 41 rfl HS2.out ?_
  refine hp 22 42 (.bool true) rfl HS2.out ?_
  refine hp 23 43 (.bool true) rfl HS2.out ?_
  refine hs 24 44 rfl HS2.out ?_
  refine hs 25 45 rfl HS2.out ?_
  refine hs 26 46 rfl HS2.out ?_
  refine hp 27 47 (.bool true) rfl HS2.out ?_
  refine wpAnyH_done (by kernel_rfl) ?_ _
  have HFin := Lib.hid (HGV.out.then_non HS2.out)
  go_wp2_with fail
  go_ret
  exact ⟨rfl, HFin.out⟩
 ·have hzd : decide (z > 12000) = false := by rw [decide_eq_false_iff_not]; exact hz
  refine hp 5 25 (.bool false) rfl HS2.out ?_
  refine hp 6 26 (.bool false) rfl HS2.out ?_
  clear hz hzd
  refine hp 7 27 (.int .i64 n) rfl HS2.out ?_
  by_cases hc0 : n < 1
  ·have hc0d : decide (n < 1) = true := by rw [decide_eq_true_eq]; exact hc0
   refine hp 8 28 (.bool true) rfl HS2.out ?_
   refine hp 9 29 (.bool true) rfl HS2.out ?_
   refine hp 10 30 (.bool true) rfl HS2.out ?_
   refine hs 11 31 rfl HS2.out ?_
   refine hs 12 32 rfl HS2.out ?_
   refine hp 13 33 (.bool true) rfl HS2.out ?_
   refine hp 14 34 (.bool true) rfl HS2.out ?_
   refine hs 15 35 rfl HS2.out ?_
   refine hs 16 36 rfl HS2.out ?_
   refine hp 17 37 (.bool true) rfl HS2.out ?_
   refine hp 18 38 (.bool true) rfl HS2.out ?_
   refine hs 19 39 rfl HS2.out ?_
   refine hs 20 40 rfl HS2.out ?_
   refine hs 21 41 rfl HS2.out ?_
   refine hp 22 42 (.bool true) rfl HS2.out ?_
   refine hp 23 43 (.bool true) rfl HS2.out ?_
   refine hs 24 44 rfl HS2.out ?_
   refine hs 25 45 rfl HS2.out ?_
   refine hs 26 46 rfl HS2.out ?_
   refine hp 27 47 (.bool true) rfl HS2.out ?_
   refine wpAnyH_done (by kernel_rfl) ?_ _
   have HFin := Lib.hid (HGV.out.then_non HS2.out)
   go_wp2_with fail
   go_ret
   exact ⟨rfl, HFin.out⟩
  ·have hc0d : decide (n < 1) = false := by rw [decide_eq_false_iff_not]; exact hc0
   refine hp 8 28 (.bool false) rfl HS2.out ?_
   refine hp 9 29 (.bool false) rfl HS2.out ?_
   refine hp 10 30 (.bool false) rfl HS2.out ?_
   have Hhc0 := Lib.hid hc0
   clear hc0 hc0d
   refine hp 11 31 (.int .i64 n) rfl HS2.out ?_
   by_cases hc1 : n > 1073741824
   ·have hc1d : decide (n > 1073741824) = true := by rw [decide_eq_true_eq]; exact hc1
    refine hp 12 32 (.bool true) rfl HS2.out ?_
    refine hp 13 33 (.bool true) rfl HS2.out ?_
    refine hp 14 34 (.bool true) rfl HS2.out ?_
    refine hs 15 35 rfl HS2.out ?_
    refine hs 16 36 rfl HS2.out ?_
    refine hp 17 37 (.bool true) rfl HS2.out ?_
    refine hp 18 38 (.bool true) rfl HS2.out ?_
    refine hs 19 39 rfl HS2.out ?_
    refine hs 20 40 rfl HS2.out ?_
    refine hs 21 41 rfl HS2.out ?_
    refine hp 22 42 (.bool true) rfl HS2.out ?_
    refine hp 23 43 (.bool true) rfl HS2.out ?_
    refine hs 24 44 rfl HS2.out ?_
    refine hs 25 45 rfl HS2.out ?_
    refine hs 26 46 rfl HS2.out ?_
    refine hp 27 47 (.bool true) rfl HS2.out ?_
    refine wpAnyH_done (by kernel_rfl) ?_ _
    have HFin := Lib.hid (HGV.out.then_non HS2.out)
    go_wp2_with fail
    go_ret
    exact ⟨rfl, HFin.out⟩
   ·have hc1d : decide (n > 1073741824) = false := by rw [decide_eq_false_iff_not]; exact hc1
    refine hp 12 32 (.bool false) rfl HS2.out ?_
    refine hp 13 33 (.bool false) rfl HS2.out ?_
    refine hp 14 34 (.bool false) rfl HS2.out ?_
    have Hhc1 := Lib.hid hc1
    clear hc1 hc1d
    refine hp 15 35 (.int .i64 m) rfl HS2.out ?_
    by_cases hc2 : m < 1
    ·have hc2d : decide (m < 1) = true := by rw [decide_eq_true_eq]; exact hc2
     refine hp 16 36 (.bool true) rfl HS2.out ?_
     refine hp 17 37 (.bool true) rfl HS2.out ?_
     refine hp 18 38 (.bool true) rfl HS2.out ?_
     refine hs 19 39 rfl HS2.out ?_
     refine hs 20 40 rfl HS2.out ?_
     refine hs 21 41 rfl HS2.out ?_
     refine hp 22 42 (.bool true) rfl HS2.out ?_
     refine hp 23 43 (.bool true) rfl HS2.out ?_
     refine hs 24 44 rfl HS2.out ?_
     refine hs 25 45 rfl HS2.out ?_
     refine hs 26 46 rfl HS2.out ?_
     refine hp 27 47 (.bool true) rfl HS2.out ?_
     refine wpAnyH_done (by kernel_rfl) ?_ _
     have HFin := Lib.hid (HGV.out.then_non HS2.out)
     go_wp2_with fail
     go_ret
     exact ⟨rfl, HFin.out⟩
    ·have hc2d : decide (m < 1) = false := by rw [decide_eq_false_iff_not]; exact hc2
     refine hp 16 36 (.bool false) rfl HS2.out ?_
     refine hp 17 37 (.bool false) rfl HS2.out ?_
     refine hp 18 38 (.bool false) rfl HS2.out ?_
     have Hhc2 := Lib.hid hc2
     clear hc2 hc2d
     refine h_load 19 (some 39) 25 (.tmp 4) b4 0 #[.int .i64 a.frames, .slice A1 a.parts.length c1, .slice A2 a.queues.length c2] _ rfl (by kernel_rfl) (by kernel_rfl) (by kernel_rfl) (by kernel_rfl) (by kernel_rfl) (fun _ _ _ h => h) (by kernel_rfl) (by kernel_rfl) (fun W hW => range_keepS HRa.out hW (fun e => e)) Tryz.underlying25 rfl info_st HS2.out ?_
     try simp only [Act.put, sA, sB, sC]
     refine h_one 20 (by kernel_rfl) rfl (by kernel_rfl) ?_
     intro K hK
     go_simp
     refine (HMa.out _ HS2.out).mono ?_
     rintro e w20 ⟨rfl, hgu⟩
     have HS2m := Lib.hid (HS2.out.then_non hgu)
     refine hK.out _ _ HS2m.out (fun _ => ?_)
     clear hK K hgu
     try simp only [Act.put, sA, sB, sC]
     cases hma : mayS a with
     | false =>
      refine hp 21 41 (.bool true) rfl HS2m.out ?_
      refine hp 22 42 (.bool true) rfl HS2m.out ?_
      refine hp 23 43 (.bool true) rfl HS2m.out ?_
      refine hs 24 44 rfl HS2m.out ?_
      refine hs 25 45 rfl HS2m.out ?_
      refine hs 26 46 rfl HS2m.out ?_
      refine hp 27 47 (.bool true) rfl HS2m.out ?_
      refine wpAnyH_done (by kernel_rfl) ?_ _
      have HFin := Lib.hid (HGV.out.then_non HS2m.out)
      go_wp2_with fail
      go_ret
      exact ⟨rfl, HFin.out⟩
     | true =>
      refine hp 21 41 (.bool false) rfl HS2m.out ?_
      refine hp 22 42 (.bool false) rfl HS2m.out ?_
      refine hp 23 43 (.bool false) rfl HS2m.out ?_
      refine h_load 24 (some 44) 25 (.tmp 5) (b4 + 1) 0 #[.int .i64 b.frames, .slice A3 b.parts.length c3, .slice A4 b.queues.length c4] _ rfl (by kernel_rfl) (by kernel_rfl) (by kernel_rfl) (by kernel_rfl) (by kernel_rfl) (fun _ _ _ h => h) (by kernel_rfl) (by kernel_rfl) (fun W hW => range_keepS HRb.out hW (fun e => e)) Tryz.underlying25 rfl info_st HS2m.out ?_
      try simp only [Act.put, sA, sB, sC]
      refine h_one 25 (by kernel_rfl) rfl (by kernel_rfl) ?_
      intro K hK
      go_simp
      refine (HMb.out _ HS2m.out).mono ?_
      rintro e w25 ⟨rfl, hgu⟩
      have HS2mm := Lib.hid (HS2m.out.then_non hgu)
      refine hK.out _ _ HS2mm.out (fun _ => ?_)
      clear hK K hgu
      try simp only [Act.put, sA, sB, sC]
      cases hmb : mayS b with
      | false =>
       refine hp 26 46 (.bool true) rfl HS2mm.out ?_
       refine hp 27 47 (.bool true) rfl HS2mm.out ?_
       refine wpAnyH_done (by kernel_rfl) ?_ _
       have HFin := Lib.hid (HGV.out.then_non HS2mm.out)
       go_wp2_with fail
       go_ret
       exact ⟨rfl, HFin.out⟩
      | true =>
       refine hp 26 46 (.bool false) rfl HS2mm.out ?_
       refine hp 27 47 (.bool false) rfl HS2mm.out ?_
       refine wpAnyH_done (by kernel_rfl) ?_ _
       have HG3 := Lib.hid (HGV.out.then_non HS2mm.out)
       have HB3 := Lib.hid (And.intro (blk_keep HBaV.out HS2mm.out (fun e => e)) (blk_keep HBbV.out HS2mm.out (fun e => e)))
       have hn1 : 1 ≤ n := by have := Hhc0.out; omega
       have hn2 : n ≤ 1073741824 := by have := Hhc1.out; omega
       have hm1 : 1 ≤ m := by have := Hhc2.out; omega
       have HBd := Lib.hid (And.intro (And.intro hn1 hn2) hm1)
       have HMy := Lib.hid (And.intro (And.intro hma (stBd_may hma HVa.out.bds)) (And.intro hmb (stBd_may hmb HVb.out.bds)))
       clear hn1 hn2 hm1 hma hmb Hhc0 Hhc1 Hhc2 HWa HWb HMa HMb HS HS1 HS2 HS2m HS2mm HGV HGu HBa HBb HBaV HBbV HRa HRb
       have HNew := Lib.hid (fun W => New_ok 323 W (by omega) (by omega))
       have h0 := new_rest
       obtain ⟨D0, hD0⟩ : ∃ D, Dk.new 323 = D := ⟨_, rfl⟩
       have HC0 : Hid (Calm2 D0) := Lib.hid (by rw [← hD0]; exact ⟨h0, rfl⟩)
       rw [hD0] at HNew
       clear hD0 h0
       go_wp2_with fail
       refine (HNew.out _).mono ?_
       rintro e u1 ⟨xd, xs, xm, rfl, hD, hp1, hp2, hp3, hg⟩
       have HX := Lib.hid hD
       have HG4 := Lib.hid (HG3.out.then_non hg)
       have HB4 := Lib.hid (And.intro (blk_keep HB3.out.1 hg (fun e => e)) (blk_keep HB3.out.2 hg (fun e => e)))
       have HXg := Lib.hid (And.intro hp1 (And.intro hp2 hp3))
       have hl3 := blk_lt HB3.out.2
       have HBl := Lib.hid hl3
       clear hD hg hp1 hp2 hp3 hl3
       go_wp2_with fail
       refine (HNew.out _).mono ?_
       rintro e u2 ⟨yd, ys, ym, rfl, hD, hp1, hp2, hp3, hg⟩
       have HX2 := Lib.hid (HX.out.non hg)
       have HY2 := Lib.hid hD
       have HG5 := Lib.hid (HG4.out.then_non hg)
       have HB5 := Lib.hid (And.intro (blk_keep HB4.out.1 hg (fun e => e)) (blk_keep HB4.out.2 hg (fun e => e)))
       have hxl := HX.out.lt
       have HAp : Hid (∀ k, DS xd xs xm k → ¬ DS yd ys ym k) := Lib.hid (fun k e e2 => by rcases e with e | e | e <;> rcases e2 with e2 | e2 | e2 <;> omega)
       have HAq : Hid (∀ k, DS yd ys ym k → ¬ DS xd xs xm k) := Lib.hid (fun k e e2 => HAp.out k e2 e)
       have HDX : Hid (∀ k, DS xd xs xm k → w.heap.size ≤ k ∧ b4 + 1 < k) := Lib.hid (fun k e => by have := HXg.out; have := HBl.out; have := HG3.out.size; rcases e with e | e | e <;> omega)
       have HDY : Hid (∀ k, DS yd ys ym k → w.heap.size ≤ k ∧ b4 + 1 < k) := Lib.hid (fun k e => by have := blk_lt HB4.out.2; have := HG4.out.size; rcases e with e | e | e <;> omega)
       clear hD hg hp1 hp2 hp3 hxl HX HG3 HG4 HB3 HB4 HXg HNew
       go_wp2_with fail
       go_loopw [13] (fun iv wr => ∃ k : Nat, k ≤ 2 ∧ iv = .int .i64 k ∧ ∃ DX DY : Dk, Hid (IsD wr xd xs xm DX) ∧ Hid (IsD wr yd ys ym DY) ∧ Hid (Calm2 DX ∧ Calm2 DY ∧ DX.left = DY.left) ∧ Hid (Chg Non w wr) ∧ Hid (wr.heap[b4]? = some (.cells #[.int .i64 a.frames, .slice A1 a.parts.length c1, .slice A2 a.queues.length c2] 25 (0, 0)) ∧ wr.heap[b4 + 1]? = some (.cells #[.int .i64 b.frames, .slice A3 b.parts.length c3, .slice A4 b.queues.length c4] 25 (0, 0)))) (fun iv _ => 2 - (intOf iv).toNat)
       case atStart => exact ⟨0, by omega, rfl, D0, D0, HX2, HY2, Lib.hid ⟨HC0.out, HC0.out, rfl⟩, HG5, HB5⟩
       case round =>
        clear HX2 HY2 HG5 HB5
        obtain ⟨k, hk, rfl, DX, DY, HX, HY, HC, HG, HB⟩ := hrel
        by_cases hlt : k < 2
        ·have hltd : decide ((k : Int) < 2) = true := by rw [decide_eq_true_eq]; omega
         have HBd1 := HBd.out
         go_wp2_with fail
         refine (Arm_up xd xs xm DX m none [] 0 _ HX.out HC.out.1.r.up (Rd.nil _ _) (by simp) HBd1.2).mono ?_
         rintro e v1 ⟨rfl, hD, hg⟩
         have HX1 := Lib.hid hD
         have HY1 := Lib.hid (isD_apart HY.out HC.out.2.1.y hg HAq.out)
         have HG1 := Lib.hid (HG.out.then_new hg (fun x e => (HDX.out x e).1))
         have HB1 := Lib.hid (And.intro (blk_keep HB.out.1 hg (fun e => by have := HDX.out _ e; omega)) (blk_keep HB.out.2 hg (fun e => by have := HDX.out _ e; omega)))
         clear hD hg HX HY HG HB
         go_wp2_with fail
         refine (Arm_up yd ys ym DY m none [] 0 _ HY1.out HC.out.2.1.r.up (Rd.nil _ _) (by simp) HBd1.2).mono ?_
         rintro e v2 ⟨rfl, hD, hg⟩
         have HY2 := Lib.hid hD
         have HX2 := Lib.hid (isD_apart HX1.out (D := { DX with left := m, stay := [] }) rfl hg HAp.out)
         have HG2 := Lib.hid (HG1.out.then_new hg (fun x e => (HDY.out x e).1))
         have HB2 := Lib.hid (And.intro (blk_keep HB1.out.1 hg (fun e => by have := HDY.out _ e; omega)) (blk_keep HB1.out.2 hg (fun e => by have := HDY.out _ e; omega)))
         clear hD hg HX1 HY1 HG1 HB1
         go_wp2_with fail
         by_cases hat : m ≤ 98
         case pos =>
          have hatd : decide (m > 98) = false := by rw [decide_eq_false_iff_not]; omega
          have tX := turn_down (hash := tagN 1) HC.out.1 HMy.out.1.2 HMy.out.1.1 (tagN_len 1) HBd1.1.1 (by omega) HBd1.2 hat
          have tY := turn_down (hash := tagN 2) HC.out.2.1 HMy.out.2.2 HMy.out.2.1 (tagN_len 2) HBd1.1.1 (by omega) HBd1.2 hat
          obtain ⟨yX, hyX⟩ : ∃ y, kPutR { DX with left := m, stay := [] } n (tagN 1) a = y := ⟨_, rfl⟩
          obtain ⟨yY, hyY⟩ : ∃ y, kPutR { DY with left := m, stay := [] } n (tagN 2) b = y := ⟨_, rfl⟩
          have HPX := Lib.hid (fun W (hD : IsD W xd xs xm { DX with left := m, stay := [] }) (hs : StaV I W a (.slice A1 a.parts.length c1) (.slice A2 a.queues.length c2)) (hw : w.heap.size ≤ W.heap.size) => kPut_in I xd xs xm { DX with left := m, stay := [] } n (tagN 1) a _ _ W hD ⟨by simp, him.2⟩ (by show 323 ≤ DX.sec.length; rw [HC.out.1.r.len]; omega) hs (fun b hb => Nat.lt_of_lt_of_le (hI b hb) hw) (tagN_len 1) ⟨by omega, by omega⟩)
          have HPY := Lib.hid (fun W (hD : IsD W yd ys ym { DY with left := m, stay := [] }) (hs : StaV I W b (.slice A3 b.parts.length c3) (.slice A4 b.queues.length c4)) (hw : w.heap.size ≤ W.heap.size) => kPut_in I yd ys ym { DY with left := m, stay := [] } n (tagN 2) b _ _ W hD ⟨by simp, him.2⟩ (by show 323 ≤ DY.sec.length; rw [HC.out.2.1.r.len]; omega) hs (fun b hb => Nat.lt_of_lt_of_le (hI b hb) hw) (tagN_len 2) ⟨by omega, by omega⟩)
          have hsX : (kPutR { DX with left := m, stay := [] } n (tagN 1) a).1.stay = [] := by
           rw [putR_may HBd1.1.1 HMy.out.1.1]
           exact kPut_stay (by show 323 ≤ DX.sec.length; rw [HC.out.1.r.len]; omega) rfl
          have hsY : (kPutR { DY with left := m, stay := [] } n (tagN 2) b).1.stay = [] := by
           rw [putR_may HBd1.1.1 HMy.out.2.1]
           exact kPut_stay (by show 323 ≤ DY.sec.length; rw [HC.out.2.1.r.len]; omega) rfl
          rw [hyX] at tX HPX hsX
          rw [hyY] at tY HPY hsY
          obtain ⟨FX, eX⟩ := yX
          obtain ⟨FY, eY⟩ := yY
          simp only at tX tY HPX HPY hsX hsY
          have HSt := Lib.hid (And.intro hsX hsY)
          clear hyX hyY hsX hsY
          obtain ⟨rfl, hux, hcx, hlx⟩ := tX
          obtain ⟨rfl, huy, hcy, hly⟩ := tY
          have HT := Lib.hid (And.intro hux (And.intro huy (And.intro hcx (And.intro hcy (hlx.trans hly.symm)))))
          clear hux hcx hlx huy hcy hly HBd1 hat
          obtain ⟨V, hV⟩ : ∃ V, V = v2.drew := ⟨_, rfl⟩
          have hgV : Chg Non v2 V := by rw [hV]; exact (Chg.refl Non v2).drew
          have HXV := Lib.hid (HX2.out.non hgV)
          have HYV := Lib.hid (HY2.out.non hgV)
          have HGV := Lib.hid (HG2.out.then_non hgV)
          have HBV := Lib.hid (And.intro (blk_keep HB2.out.1 hgV (fun e => e)) (blk_keep HB2.out.2 hgV (fun e => e)))
          have hne4 : ∀ k, k ≤ b4 + 1 → ¬ (DS xd xs xm k ∨ DS yd ys ym k) := fun k hk e => by
           rcases e with e | e
           ·have := HDX.out _ e; omega
           ·have := HDY.out _ e; omega
          have HN4 := Lib.hid hne4
          clear hgV hne4 HX2 HY2 HG2 HB2
          have HS : Hid (Chg (fun k => DS xd xs xm k ∨ DS yd ys ym k) V V) := Lib.hid (Chg.refl _ _)
          refine wp_region_held_drew (S := Chg (fun k => DS xd xs xm k ∨ DS yd ys ym k) V) (by kernel_rfl) (by rw [hV]; exact Chg.refl _ _) (fun hHeld => ?_)
          clear hHeld
          rw [← hV]
          clear hV
          refine hp 0 72 (.pointer (some ⟨xd, 0, none⟩)) rfl HS.out ?_
          refine hp 1 73 (.int .i64 n) rfl HS.out ?_
          refine hp 2 74 (.agg (tagA (tagN 1))) rfl HS.out ?_ (he := fun W hW => by kernel_rfl)
          refine h_load 3 (some 75) 25 (.tmp 4) b4 0 #[.int .i64 a.frames, .slice A1 a.parts.length c1, .slice A2 a.queues.length c2] _ rfl (by kernel_rfl) (by kernel_rfl) (by kernel_rfl) (by kernel_rfl) (by kernel_rfl) (fun _ _ _ h => h) (by kernel_rfl) (by kernel_rfl) (fun W hW => range_keepS (blk_range HBV.out.1) hW (HN4.out _ (by omega))) Tryz.underlying25 rfl info_st HS.out ?_
          try simp only [Act.put, sA, sB, sC]
          refine hp 5 77 (.pointer (some ⟨yd, 0, none⟩)) rfl HS.out ?_
          refine hp 6 78 (.int .i64 n) rfl HS.out ?_
          refine hp 7 79 (.agg (tagA (tagN 2))) rfl HS.out ?_ (he := fun W hW => by kernel_rfl)
          refine h_load 8 (some 80) 25 (.tmp 5) (b4 + 1) 0 #[.int .i64 b.frames, .slice A3 b.parts.length c3, .slice A4 b.queues.length c4] _ rfl (by kernel_rfl) (by kernel_rfl) (by kernel_rfl) (by kernel_rfl) (by kernel_rfl) (fun _ _ _ h => h) (by kernel_rfl) (by kernel_rfl) (fun W hW => range_keepS (blk_range HBV.out.2) hW (HN4.out _ (by omega))) Tryz.underlying25 rfl info_st HS.out ?_
          try simp only [Act.put, sA, sB, sC]
          refine h_one 4 (by kernel_rfl) rfl (by kernel_rfl) ?_
          intro K hK
          go_simp
          refine (HPX.out V HXV.out (HVa.out.non HGV.out) HGV.out.size).mono ?_
          rintro e v3 ⟨rfl, hD, hg⟩
          have HX3 := Lib.hid hD
          have HY3 := Lib.hid (isD_apart (D := { DY with left := m, stay := [] }) HYV.out rfl hg HAq.out)
          have HG3 := Lib.hid (HGV.out.then_new hg (fun x e => (HDX.out x e).1))
          have HB3 := Lib.hid (And.intro (blk_keep HBV.out.1 hg (fun e => HN4.out _ (by omega) (.inl e))) (blk_keep HBV.out.2 hg (fun e => HN4.out _ (by omega) (.inl e))))
          have HS3 : Hid (Chg (fun k => DS xd xs xm k ∨ DS yd ys ym k) V v3) := Lib.hid (hg.mono (fun k e => .inl e))
          refine hK.out _ _ HS3.out (fun _ => ?_)
          clear hK K hD hg HXV HYV HGV HBV HS
          try simp only [Act.put, sA, sB, sC]
          refine h_one 9 (by kernel_rfl) rfl (by kernel_rfl) ?_
          intro K hK
          go_simp
          refine (HPY.out v3 HY3.out (HVb.out.non HG3.out) HG3.out.size).mono ?_
          rintro e v4 ⟨rfl, hD, hg⟩
          have HY4 := Lib.hid hD
          have HX4 := Lib.hid (isD_apart HX3.out HSt.out.1 hg HAp.out)
          have HG4 := Lib.hid (HG3.out.then_new hg (fun x e => (HDY.out x e).1))
          have HB4 := Lib.hid (And.intro (blk_keep HB3.out.1 hg (fun e => HN4.out _ (by omega) (.inr e))) (blk_keep HB3.out.2 hg (fun e => HN4.out _ (by omega) (.inr e))))
          have HS4 : Hid (Chg (fun k => DS xd xs xm k ∨ DS yd ys ym k) V v4) := Lib.hid (HS3.out.trans_same (hg.mono (fun k e => .inr e)))
          refine hK.out _ _ HS4.out (fun _ => ?_)
          clear hK K hD hg HX3 HY3 HG3 HB3 HS3
          try simp only [Act.put, sA, sB, sC]
          refine hp 10 14 (.int .i64 60) rfl HS4.out ?_
          refine hp 11 15 (.int .i64 60) rfl HS4.out ?_
          refine wpAnyH_done (by kernel_rfl) ?_ _
          clear HS4 HN4 HPX HPY
          go_wp2_with fail
          refine (Up_ok xd xs xm FX _ HX4.out).mono ?_
          rintro e u ⟨rfl, rfl⟩
          rw [HT.out.1]
          go_wp2_with fail
          refine (Up_ok yd ys ym FY _ HY4.out).mono ?_
          rintro e u ⟨rfl, rfl⟩
          rw [HT.out.2.1]
          go_wp2_with fail
          refine (Up_ok xd xs xm FX _ HX4.out).mono ?_
          rintro e u ⟨rfl, rfl⟩
          rw [HT.out.1]
          go_wp2_with fail
          refine (Start_any xd xs xm FX _ HX4.out).mono ?_
          rintro e v5 ⟨rfl, hD, hg⟩
          have hst := start_at FX HT.out.1
          rw [hst.2] at hD
          rw [hst.1]
          have HX5 := Lib.hid hD
          have HY5 := Lib.hid (isD_apart HY4.out HSt.out.2 hg HAq.out)
          have HG5 := Lib.hid (HG4.out.then_new hg (fun x e => (HDX.out x e).1))
          have HB5 := Lib.hid (And.intro (blk_keep HB4.out.1 hg (fun e => by have := HDX.out _ e; omega)) (blk_keep HB4.out.2 hg (fun e => by have := HDX.out _ e; omega)))
          clear hD hg hst HX4 HY4 HG4 HB4
          go_wp2_with fail
          refine (Start_any yd ys ym FY _ HY5.out).mono ?_
          rintro e v6 ⟨rfl, hD, hg⟩
          have hst := start_at FY HT.out.2.1
          rw [hst.2] at hD
          rw [hst.1]
          have HY6 := Lib.hid hD
          have HX6 := Lib.hid (isD_apart HX5.out (D := { FX with up := true }) HT.out.2.2.1.y hg HAp.out)
          have HG6 := Lib.hid (HG5.out.then_new hg (fun x e => (HDY.out x e).1))
          have HB6 := Lib.hid (And.intro (blk_keep HB5.out.1 hg (fun e => by have := HDY.out _ e; omega)) (blk_keep HB5.out.2 hg (fun e => by have := HDY.out _ e; omega)))
          clear hD hg hst HX5 HY5 HG5 HB5
          go_wp2_with fail
          exact ⟨⟨k + 1, by omega, by simp, _, _, HX6, HY6, Lib.hid ⟨HT.out.2.2.1, HT.out.2.2.2.1, HT.out.2.2.2.2⟩, HG6, HB6⟩, by simp [intOf]; omega⟩
         case neg =>
          have hatd : decide (m > 98) = true := by rw [decide_eq_true_eq]; omega
          have tX := turn_up (hash := tagN 1) HC.out.1 HMy.out.1.2 HMy.out.1.1 (tagN_len 1) HBd1.1.1 (by omega) (k := m) (by omega) him.2
          have tY := turn_up (hash := tagN 2) HC.out.2.1 HMy.out.2.2 HMy.out.2.1 (tagN_len 2) HBd1.1.1 (by omega) (k := m) (by omega) him.2
          obtain ⟨yX, hyX⟩ : ∃ y, kPutR { DX with left := m, stay := [] } n (tagN 1) a = y := ⟨_, rfl⟩
          obtain ⟨yY, hyY⟩ : ∃ y, kPutR { DY with left := m, stay := [] } n (tagN 2) b = y := ⟨_, rfl⟩
          have HPX := Lib.hid (fun W (hD : IsD W xd xs xm { DX with left := m, stay := [] }) (hs : StaV I W a (.slice A1 a.parts.length c1) (.slice A2 a.queues.length c2)) (hw : w.heap.size ≤ W.heap.size) => kPut_in I xd xs xm { DX with left := m, stay := [] } n (tagN 1) a _ _ W hD ⟨by simp, him.2⟩ (by show 323 ≤ DX.sec.length; rw [HC.out.1.r.len]; omega) hs (fun b hb => Nat.lt_of_lt_of_le (hI b hb) hw) (tagN_len 1) ⟨by omega, by omega⟩)
          have HPY := Lib.hid (fun W (hD : IsD W yd ys ym { DY with left := m, stay := [] }) (hs : StaV I W b (.slice A3 b.parts.length c3) (.slice A4 b.queues.length c4)) (hw : w.heap.size ≤ W.heap.size) => kPut_in I yd ys ym { DY with left := m, stay := [] } n (tagN 2) b _ _ W hD ⟨by simp, him.2⟩ (by show 323 ≤ DY.sec.length; rw [HC.out.2.1.r.len]; omega) hs (fun b hb => Nat.lt_of_lt_of_le (hI b hb) hw) (tagN_len 2) ⟨by omega, by omega⟩)
          have hsX : (kPutR { DX with left := m, stay := [] } n (tagN 1) a).1.stay = [] := by
           rw [putR_may HBd1.1.1 HMy.out.1.1]
           exact kPut_stay (by show 323 ≤ DX.sec.length; rw [HC.out.1.r.len]; omega) rfl
          have hsY : (kPutR { DY with left := m, stay := [] } n (tagN 2) b).1.stay = [] := by
           rw [putR_may HBd1.1.1 HMy.out.2.1]
           exact kPut_stay (by show 323 ≤ DY.sec.length; rw [HC.out.2.1.r.len]; omega) rfl
          rw [hyX] at tX HPX hsX
          rw [hyY] at tY HPY hsY
          obtain ⟨FX, eX⟩ := yX
          obtain ⟨FY, eY⟩ := yY
          simp only at tX tY HPX HPY hsX hsY
          have HSt := Lib.hid (And.intro hsX hsY)
          clear hyX hyY hsX hsY
          obtain ⟨rfl, hcx, hlx⟩ := tX
          obtain ⟨rfl, hcy, hly⟩ := tY
          have HT := Lib.hid (And.intro hcx (And.intro hcy (hlx.trans hly.symm)))
          clear hcx hlx hcy hly HBd1 hat
          obtain ⟨V, hV⟩ : ∃ V, V = v2.drew := ⟨_, rfl⟩
          have hgV : Chg Non v2 V := by rw [hV]; exact (Chg.refl Non v2).drew
          have HXV := Lib.hid (HX2.out.non hgV)
          have HYV := Lib.hid (HY2.out.non hgV)
          have HGV := Lib.hid (HG2.out.then_non hgV)
          have HBV := Lib.hid (And.intro (blk_keep HB2.out.1 hgV (fun e => e)) (blk_keep HB2.out.2 hgV (fun e => e)))
          have hne4 : ∀ k, k ≤ b4 + 1 → ¬ (DS xd xs xm k ∨ DS yd ys ym k) := fun k hk e => by
           rcases e with e | e
           ·have := HDX.out _ e; omega
           ·have := HDY.out _ e; omega
          have HN4 := Lib.hid hne4
          clear hgV hne4 HX2 HY2 HG2 HB2
          have HS : Hid (Chg (fun k => DS xd xs xm k ∨ DS yd ys ym k) V V) := Lib.hid (Chg.refl _ _)
          refine wp_region_held_drew (S := Chg (fun k => DS xd xs xm k ∨ DS yd ys ym k) V) (by kernel_rfl) (by rw [hV]; exact Chg.refl _ _) (fun hHeld => ?_)
          clear hHeld
          rw [← hV]
          clear hV
          refine hp 0 72 (.pointer (some ⟨xd, 0, none⟩)) rfl HS.out ?_
          refine hp 1 73 (.int .i64 n) rfl HS.out ?_
          refine hp 2 74 (.agg (tagA (tagN 1))) rfl HS.out ?_ (he := fun W hW => by kernel_rfl)
          refine h_load 3 (some 75) 25 (.tmp 4) b4 0 #[.int .i64 a.frames, .slice A1 a.parts.length c1, .slice A2 a.queues.length c2] _ rfl (by kernel_rfl) (by kernel_rfl) (by kernel_rfl) (by kernel_rfl) (by kernel_rfl) (fun _ _ _ h => h) (by kernel_rfl) (by kernel_rfl) (fun W hW => range_keepS (blk_range HBV.out.1) hW (HN4.out _ (by omega))) Tryz.underlying25 rfl info_st HS.out ?_
          try simp only [Act.put, sA, sB, sC]
          refine hp 5 77 (.pointer (some ⟨yd, 0, none⟩)) rfl HS.out ?_
          refine hp 6 78 (.int .i64 n) rfl HS.out ?_
          refine hp 7 79 (.agg (tagA (tagN 2))) rfl HS.out ?_ (he := fun W hW => by kernel_rfl)
          refine h_load 8 (some 80) 25 (.tmp 5) (b4 + 1) 0 #[.int .i64 b.frames, .slice A3 b.parts.length c3, .slice A4 b.queues.length c4] _ rfl (by kernel_rfl) (by kernel_rfl) (by kernel_rfl) (by kernel_rfl) (by kernel_rfl) (fun _ _ _ h => h) (by kernel_rfl) (by kernel_rfl) (fun W hW => range_keepS (blk_range HBV.out.2) hW (HN4.out _ (by omega))) Tryz.underlying25 rfl info_st HS.out ?_
          try simp only [Act.put, sA, sB, sC]
          refine h_one 4 (by kernel_rfl) rfl (by kernel_rfl) ?_
          intro K hK
          go_simp
          refine (HPX.out V HXV.out (HVa.out.non HGV.out) HGV.out.size).mono ?_
          rintro e v3 ⟨rfl, hD, hg⟩
          have HX3 := Lib.hid hD
          have HY3 := Lib.hid (isD_apart (D := { DY with left := m, stay := [] }) HYV.out rfl hg HAq.out)
          have HG3 := Lib.hid (HGV.out.then_new hg (fun x e => (HDX.out x e).1))
          have HB3 := Lib.hid (And.intro (blk_keep HBV.out.1 hg (fun e => HN4.out _ (by omega) (.inl e))) (blk_keep HBV.out.2 hg (fun e => HN4.out _ (by omega) (.inl e))))
          have HS3 : Hid (Chg (fun k => DS xd xs xm k ∨ DS yd ys ym k) V v3) := Lib.hid (hg.mono (fun k e => .inl e))
          refine hK.out _ _ HS3.out (fun _ => ?_)
          clear hK K hD hg HXV HYV HGV HBV HS
          try simp only [Act.put, sA, sB, sC]
          refine h_one 9 (by kernel_rfl) rfl (by kernel_rfl) ?_
          intro K hK
          go_simp
          refine (HPY.out v3 HY3.out (HVb.out.non HG3.out) HG3.out.size).mono ?_
          rintro e v4 ⟨rfl, hD, hg⟩
          have HY4 := Lib.hid hD
          have HX4 := Lib.hid (isD_apart HX3.out HSt.out.1 hg HAp.out)
          have HG4 := Lib.hid (HG3.out.then_new hg (fun x e => (HDY.out x e).1))
          have HB4 := Lib.hid (And.intro (blk_keep HB3.out.1 hg (fun e => HN4.out _ (by omega) (.inr e))) (blk_keep HB3.out.2 hg (fun e => HN4.out _ (by omega) (.inr e))))
          have HS4 : Hid (Chg (fun k => DS xd xs xm k ∨ DS yd ys ym k) V v4) := Lib.hid (HS3.out.trans_same (hg.mono (fun k e => .inr e)))
          refine hK.out _ _ HS4.out (fun _ => ?_)
          clear hK K hD hg HX3 HY3 HG3 HB3 HS3
          try simp only [Act.put, sA, sB, sC]
          refine hp 10 14 (.int .i64 0) rfl HS4.out ?_
          refine hp 11 15 (.int .i64 0) rfl HS4.out ?_
          refine wpAnyH_done (by kernel_rfl) ?_ _
          clear HS4 HN4 HPX HPY
          go_wp2_with fail
          refine (Up_ok xd xs xm FX _ HX4.out).mono ?_
          rintro e u ⟨rfl, rfl⟩
          rw [HT.out.1.r.up]
          go_wp2_with fail
          refine (Up_ok yd ys ym FY _ HY4.out).mono ?_
          rintro e u ⟨rfl, rfl⟩
          rw [HT.out.2.1.r.up]
          go_wp2_with fail
          refine (Up_ok xd xs xm FX _ HX4.out).mono ?_
          rintro e u ⟨rfl, rfl⟩
          rw [HT.out.1.r.up]
          go_wp2_with fail
          exact ⟨⟨k + 1, by omega, by simp, _, _, HX4, HY4, Lib.hid ⟨HT.out.1, HT.out.2.1, HT.out.2.2⟩, HG4, HB4⟩, by simp [intOf]; omega⟩
        ·obtain rfl : k = 2 := by omega
         have hltd : decide (((2 : Nat) : Int) < 2) = false := by decide
         have hmk := fun W => mk_bytes (64 : Int) (by omega) (by omega) W
         have hxl := HX.out.lt
         have hyl := HY.out.lt
         have HWx := Lib.hid (fun (W : World) (hg : Chg Non wr W) A hr hn => Write_any xd xs xm DX 0 A (List.replicate 64 0) 64 W (HX.out.non hg) HC.out.1.r.sz hr hn)
         rw [List.length_replicate] at HWx
         have hdx := dirty_one HC.out.1
         have hdy := dirty_one HC.out.2.1
         rw [← HC.out.2.2] at hdy
         obtain ⟨L, hL⟩ : ∃ L, (if DX.left = 1 then 0 else 1) = L := ⟨_, rfl⟩
         have hL1 : L ≤ 1 := by rw [← hL]; split <;> omega
         rw [hL] at hdx hdy
         clear hL
         have hyy := Dk.write_stay HC.out.1.y 0 (List.replicate 64 0)
         obtain ⟨yx, hyx⟩ : ∃ y, DX.write 0 (List.replicate 64 0) = y := ⟨_, rfl⟩
         rw [hyx] at hdx HWx hyy
         obtain ⟨EX, zx⟩ := yx
         obtain ⟨yy, hyy2⟩ : ∃ y, DY.write 0 (List.replicate 64 0) = y := ⟨_, rfl⟩
         rw [hyy2] at hdy
         obtain ⟨EY, zy⟩ := yy
         simp only at hdx hdy HWx hyy
         have HEx := Lib.hid (And.intro hdx (And.intro hdy (And.intro hyy hyy2)))
         clear hdx hdy hyy hyx hyy2
         go_wp2_with fail
         refine (HWx.out _ ((Chg.refl _ _).alloc _) _ (zeros_own wr 64 5).rd (fun b o e _ => by injection e with e; injection e with e; omega)).mono ?_
         rintro e v1 ⟨rfl, hD, hg⟩
         have hg1 : Chg (DS xd xs xm) wr v1 := ((Chg.refl Non wr).alloc _).non_then hg
         have HX1 := Lib.hid hD
         have HY1 := Lib.hid (isD_apart HY.out HC.out.2.1.y hg1 HAq.out)
         have HG1 := Lib.hid (HG.out.then_new hg1 (fun x e => (HDX.out x e).1))
         have hyl1 := HY1.out.lt
         have HWy := Lib.hid (fun (W : World) (hg : Chg Non v1 W) A hr hn => Write_any yd ys ym DY 0 A (List.replicate 64 0) 64 W (HY1.out.non hg) HC.out.2.1.r.sz hr hn)
         rw [List.length_replicate, HEx.out.2.2.2] at HWy
         simp only at HWy
         clear hD hg hg1 HX HY HG HWx hxl hyl
         go_wp2_with fail
         refine (HWy.out _ ((Chg.refl _ _).alloc _) _ (zeros_own v1 64 5).rd (fun b o e _ => by injection e with e; injection e with e; omega)).mono ?_
         rintro e v2 ⟨rfl, hD, hg⟩
         have hg1 : Chg (DS yd ys ym) v1 v2 := ((Chg.refl Non v1).alloc _).non_then hg
         have HY2 := Lib.hid hD
         have HX2 := Lib.hid (isD_apart HX1.out HEx.out.2.2.1 hg1 HAp.out)
         have HG2 := Lib.hid (HG1.out.then_new hg1 (fun x e => (HDY.out x e).1))
         have HDx := Lib.hid (fun W (hg : Chg Non v2 W) => Dirty_len xd xs xm EX W (HX2.out.non hg))
         have HDy := Lib.hid (fun W (hg : Chg Non v2 W) => Dirty_len yd ys ym EY W (HY2.out.non hg))
         rw [HEx.out.1] at HDx
         rw [HEx.out.2.1] at HDy
         clear hD hg hg1 HX1 HY1 HG1 HWy hmk hyl1 HEx
         go_wp2_with fail
         refine (HDx.out _ (Chg.refl _ _)).mono ?_
         rintro e v3 ⟨Q1, q1, rfl, hg⟩
         have HGa := Lib.hid hg
         clear hg
         go_wp2_with fail
         refine (HDy.out _ HGa.out).mono ?_
         rintro e v4 ⟨Q2, q2, rfl, hg⟩
         have HGb := Lib.hid ((HG2.out.then_non HGa.out).then_non hg)
         clear hg
         have hLd : decide ((L : Int) ≤ 1) = true := by rw [decide_eq_true_eq]; omega
         go_wp2_with fail
         go_ret
         exact ⟨rfl, HGb.out⟩
end Go.Proofs.YtkgnlobabknkcaaGreat
