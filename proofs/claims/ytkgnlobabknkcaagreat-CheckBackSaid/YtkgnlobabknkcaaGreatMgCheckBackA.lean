/- The law CheckBack. (Written by wip/gen_ckb.py.) -/
import Derived.Test.YtkgnlobabknkcaaGreatMgCheckBaseA
import Derived.Test.YtkgnlobabknkcaaGreatMgCheckBaseB
import Derived.Test.YtkgnlobabknkcaaGreatMgCheckBaseC
import Derived.Test.YtkgnlobabknkcaaGreatMgCheckBaseD
import Derived.Test.YtkgnlobabknkcaaGreatMgCheckBaseE
import Derived.Test.YtkgnlobabknkcaaGreatMgCheckBaseF
import Derived.Test.YtkgnlobabknkcaaGreatMgCheckBaseG
import Derived.Test.YtkgnlobabknkcaaGreatMgCheckBaseH
import Derived.Test.YtkgnlobabknkcaaGreatMgCheckBaseI
import Derived.Test.YtkgnlobabknkcaaGreatMgCheckBaseJ
import Derived.Test.YtkgnlobabknkcaaGreatMgCheckBaseK
import Derived.Test.YtkgnlobabknkcaaGreatMgCheckBaseL
import Derived.Test.YtkgnlobabknkcaaGreatMgCheckBaseM
import Derived.Test.YtkgnlobabknkcaaGreatMgCheckBaseN
import Derived.Test.YtkgnlobabknkcaaGreatMgCheckBaseO
import Derived.Test.YtkgnlobabknkcaaGreatMgCheckBaseP
import Derived.Test.YtkgnlobabknkcaaGreatMgCheckBaseQ
import Derived.Test.YtkgnlobabknkcaaGreatMgCheckBaseR
import Derived.Test.YtkgnlobabknkcaaGreatMgCheckBaseS
import Derived.Test.YtkgnlobabknkcaaGreatMgCheckBaseShelf
import Derived.Test.YtkgnlobabknkcaaGreatMgCheckBaseT
import Derived.Test.YtkgnlobabknkcaaGreatMgCheckBaseU
namespace Go.Proofs.YtkgnlobabknkcaaGreat
set_option linter.unusedVariables false
set_option linter.unusedSimpArgs false
set_option maxHeartbeats 8000000
open Go.RowKit Go.Shelf
attribute [local go_sem] Oper.semAt_some

set_option maxRecDepth 100000 in
theorem checkBack_walk (I : Nat → Prop) (a b : Sta) (va1 va2 vb1 vb2 : Value) (n m : Int) (w : World) (ha : StaV I w a va1 va2) (hb : StaV I w b vb1 vb2) (hI : ∀ b, I b → b < w.heap.size) :
  Calls Tryz.prog 5 #[.agg #[.int .i64 a.frames, va1, va2], .agg #[.int .i64 b.frames, vb1, vb2], .int .i64 n, .int .i64 m] w fun e w' => e = .returned (.bool true) ∧ Chg Non w w' := by
 have HVa := Lib.hid ha
 have HVb := Lib.hid hb
 obtain ⟨⟨A1, c1, rfl, _, _, _⟩, ⟨A2, c2, rfl, _, _, _⟩⟩ := ha
 obtain ⟨⟨A3, c3, rfl, _, _, _⟩, ⟨A4, c4, rfl, _, _, _⟩⟩ := hb
 go_enter Tryz.func5, Tryz.ntmps5
 go_wp2_with fail
 have hb5 := al_2_1 w (.cells #[.int .i64 a.frames, .slice A1 a.parts.length c1, .slice A2 a.queues.length c2] 25) (.cells #[.int .i64 b.frames, .slice A3 b.parts.length c3, .slice A4 b.queues.length c4] 25)
 have hb4 := al_2_0 w (.cells #[.int .i64 a.frames, .slice A1 a.parts.length c1, .slice A2 a.queues.length c2] 25) (.cells #[.int .i64 b.frames, .slice A3 b.parts.length c3, .slice A4 b.queues.length c4] 25)
 obtain ⟨W0, hW0⟩ : ∃ W0, (w.alloc (.cells #[.int .i64 a.frames, .slice A1 a.parts.length c1, .slice A2 a.queues.length c2] 25)).alloc (.cells #[.int .i64 b.frames, .slice A3 b.parts.length c3, .slice A4 b.queues.length c4] 25) = W0 := ⟨_, rfl⟩
 have hg0 : Chg Non w W0 := by rw [← hW0]; exact ((Chg.refl Non w).alloc _).alloc _
 rw [hW0] at hb4 hb5 ⊢
 clear hW0
 obtain ⟨b4, hbe⟩ : ∃ x, w.heap.size = x := ⟨_, rfl⟩
 rw [hbe] at hb4 hb5 ⊢
 clear hbe
 refine (awake_ok W0).mono ?_
 rintro e u0 ⟨rfl, hgu⟩
 have HBa := Lib.hid (blk_keep hb4 hgu (fun e => e))
 have HBb := Lib.hid (blk_keep hb5 hgu (fun e => e))
 have HGu := Lib.hid (hg0.then_non hgu)
 clear hb4 hb5 hg0 hgu
 go_wp2_with fail
 obtain ⟨V, hV⟩ : ∃ V, V = u0.drew := ⟨_, rfl⟩
 have hgV : Chg Non u0 V := by rw [hV]; exact (Chg.refl Non u0).drew
 have HGV := Lib.hid (HGu.out.then_non hgV)
 have HBaV := Lib.hid (blk_keep HBa.out hgV (fun e => e))
 have HBbV := Lib.hid (blk_keep HBb.out hgV (fun e => e))
 have HRa := Lib.hid (blk_range HBaV.out)
 have HRb := Lib.hid (blk_range HBbV.out)
 have HWa := Lib.hid (fun W (hg : Chg Non V W) => weight_any I a _ _ W (HVa.out.non (HGV.out.then_non hg)))
 have HWb := Lib.hid (fun W (hg : Chg Non V W) => weight_any I b _ _ W (HVb.out.non (HGV.out.then_non hg)))
 have HMa := Lib.hid (fun W (hg : Chg Non V W) => smay_ok I a _ _ W (HVa.out.non (HGV.out.then_non hg)))
 have HMb := Lib.hid (fun W (hg : Chg Non V W) => smay_ok I b _ _ W (HVb.out.non (HGV.out.then_non hg)))
 have HS : Hid (Chg Non V V) := Lib.hid (Chg.refl _ _)
 refine wp_region_held_drew (S := Chg Non V) (by kernel_rfl) (by rw [hV]; exact Chg.refl _ _) (fun hHeld => ?_)
 clear hHeld
 rw [← hV]
 clear hV hgV
 refine h_load 0 (some 21) 25 (.tmp 4) b4 0 #[.int .i64 a.frames, .slice A1 a.parts.length c1, .slice A2 a.queues.length c2] _ rfl (by kernel_rfl) (by kernel_rfl) (by kernel_rfl) (by kernel_rfl) (by kernel_rfl) (fun _ _ _ h => h) (by kernel_rfl) (by kernel_rfl) (fun W hW => range_keepS HRa.out hW (fun e => e)) Tryz.underlying25 rfl info_st HS.out ?_
 try simp only [Act.put, sA, sB, sC]
 refine h_load 2 (some 23) 25 (.tmp 5) (b4 + 1) 0 #[.int .i64 b.frames, .slice A3 b.parts.length c3, .slice A4 b.queues.length c4] _ rfl (by kernel_rfl) (by kernel_rfl) (by kernel_rfl) (by kernel_rfl) (by kernel_rfl) (fun _ _ _ h => h) (by kernel_rfl) (by kernel_rfl) (fun W hW => range_keepS HRb.out hW (fun e => e)) Tryz.underlying25 rfl info_st HS.out ?_
 try simp only [Act.put, sA, sB, sC]
 refine h_one 1 (by kernel_rfl) rfl (by kernel_rfl) ?_
 intro K hK
 go_simp
 refine (HWa.out _ HS.out).mono ?_
 rintro e w1 ⟨x, rfl, hgu⟩
 have HS1 := Lib.hid (HS.out.then_non hgu)
 refine hK.out _ _ HS1.out (fun _ => ?_)
 clear hK K hgu
 try simp only [Act.put, sA, sB, sC]
 refine h_one 3 (by kernel_rfl) rfl (by kernel_rfl) ?_
 intro K hK
 go_simp
 refine (HWb.out _ HS1.out).mono ?_
 rintro e w3 ⟨y, rfl, hgu⟩
 have HS2 := Lib.hid (HS1.out.then_non hgu)
 refine hK.out _ _ HS2.out (fun _ => ?_)
 clear hK K hgu
 try simp only [Act.put, sA, sB, sC]
 obtain ⟨z, hz⟩ : ∃ z, IntKind.i64.wrap (x + y) = z := ⟨_, rfl⟩
 refine hp 4 25 (.int .i64 z) rfl HS2.out ?_
 clear hz
 by_cases hz : z > 12000
 ·have hzd : decide (z > 12000) = true := by rw [decide_eq_true_eq]; exact hz
  refine hp 5 26 (.bool true) rfl HS2.out ?_
  refine hp 6 27 (.bool true) rfl HS2.out ?_
  refine hs 7 28 rfl HS2.out ?_
  refine hs 8 29 rfl HS2.out ?_
  refine hp 9 30 (.bool true) rfl HS2.out ?_
  refine hp 10 31 (.bool true) rfl HS2.out ?_
  refine hs 11 32 rfl HS2.out ?_
  refine hs 12 33 rfl HS2.out ?_
  refine hp 13 34 (.bool true) rfl HS2.out ?_
  refine hp 14 35 (.bool true) rfl HS2.out ?_
  refine hs 15 36 rfl HS2.out ?_
  refine hs 16 37 rfl HS2.out ?_
  refine hp 17 38 (.bool true) rfl HS2.out ?_
  refine hp 18 39 (.bool true) rfl HS2.out ?_
  refine hs 19 40 rfl HS2.out ?_
  refine hs 20 41 rfl HS2.out ?_
  refine hp 21 42 (.bool true) rfl HS2.out ?_
  refine hp 22 43 (.bool true) rfl HS2.out ?_
  refine hs 23 44 rfl HS2.out ?_
  refine hs 24 45 rfl HS2.out ?_
  refine hs 25 46 rfl HS2.out ?_
  refine hs 26 47 rfl HS2.out ?_
  refine hs 27 48 rfl HS2.out ?_
  refine hp 28 49 (.bool true) rfl HS2.out ?_
  refine hp 29 50 (.bool true) rfl HS2.out ?_
  refine hs 30 51 rfl HS2.out ?_
  refine hs 31 52 rfl HS2.out ?_
  refine hs 32 53 rfl HS2.out ?_
  refine hp 33 54 (.bool true) rfl HS2.out ?_
  refine hp 34 55 (.bool true) rfl HS2.out ?_
  refine hs 35 56 rfl HS2.out ?_
  refine hs 36 57 rfl HS2.out ?_
  refine hs 37 58 rfl HS2.out ?_
  refine hp 38 59 (.bool true) rfl HS2.out ?_
  refine wpAnyH_done (by kernel_rfl) ?_ _
  have HFin := Lib.hid (HGV.out.then_non HS2.out)
  go_wp2_with fail
  go_ret
  exact ⟨rfl, HFin.out⟩
 ·have hzd : decide (z > 12000) = false := by rw [decide_eq_false_iff_not]; exact hz
  refine hp 5 26 (.bool false) rfl HS2.out ?_
  refine hp 6 27 (.bool false) rfl HS2.out ?_
  clear hz hzd
  refine hp 7 28 (.int .i64 n) rfl HS2.out ?_
  by_cases hc0 : n < 1
  ·have hc0d : decide (n < 1) = true := by rw [decide_eq_true_eq]; exact hc0
   refine hp 8 29 (.bool true) rfl HS2.out ?_
   refine hp 9 30 (.bool true) rfl HS2.out ?_
   refine hp 10 31 (.bool true) rfl HS2.out ?_
   refine hs 11 32 rfl HS2.out ?_
   refine hs 12 33 rfl HS2.out ?_
   refine hp 13 34 (.bool true) rfl HS2.out ?_
   refine hp 14 35 (.bool true) rfl HS2.out ?_
   refine hs 15 36 rfl HS2.out ?_
   refine hs 16 37 rfl HS2.out ?_
   refine hp 17 38 (.bool true) rfl HS2.out ?_
   refine hp 18 39 (.bool true) rfl HS2.out ?_
   refine hs 19 40 rfl HS2.out ?_
   refine hs 20 41 rfl HS2.out ?_
   refine hp 21 42 (.bool true) rfl HS2.out ?_
   refine hp 22 43 (.bool true) rfl HS2.out ?_
   refine hs 23 44 rfl HS2.out ?_
   refine hs 24 45 rfl HS2.out ?_
   refine hs 25 46 rfl HS2.out ?_
   refine hs 26 47 rfl HS2.out ?_
   refine hs 27 48 rfl HS2.out ?_
   refine hp 28 49 (.bool true) rfl HS2.out ?_
   refine hp 29 50 (.bool true) rfl HS2.out ?_
   refine hs 30 51 rfl HS2.out ?_
   refine hs 31 52 rfl HS2.out ?_
   refine hs 32 53 rfl HS2.out ?_
   refine hp 33 54 (.bool true) rfl HS2.out ?_
   refine hp 34 55 (.bool true) rfl HS2.out ?_
   refine hs 35 56 rfl HS2.out ?_
   refine hs 36 57 rfl HS2.out ?_
   refine hs 37 58 rfl HS2.out ?_
   refine hp 38 59 (.bool true) rfl HS2.out ?_
   refine wpAnyH_done (by kernel_rfl) ?_ _
   have HFin := Lib.hid (HGV.out.then_non HS2.out)
   go_wp2_with fail
   go_ret
   exact ⟨rfl, HFin.out⟩
  ·have hc0d : decide (n < 1) = false := by rw [decide_eq_false_iff_not]; exact hc0
   refine hp 8 29 (.bool false) rfl HS2.out ?_
   refine hp 9 30 (.bool false) rfl HS2.out ?_
   refine hp 10 31 (.bool false) rfl HS2.out ?_
   have Hhc0 := Lib.hid hc0
   clear hc0 hc0d
   refine hp 11 32 (.int .i64 n) rfl HS2.out ?_
   by_cases hc1 : n > 1073741824
   ·have hc1d : decide (n > 1073741824) = true := by rw [decide_eq_true_eq]; exact hc1
    refine hp 12 33 (.bool true) rfl HS2.out ?_
    refine hp 13 34 (.bool true) rfl HS2.out ?_
    refine hp 14 35 (.bool true) rfl HS2.out ?_
    refine hs 15 36 rfl HS2.out ?_
    refine hs 16 37 rfl HS2.out ?_
    refine hp 17 38 (.bool true) rfl HS2.out ?_
    refine hp 18 39 (.bool true) rfl HS2.out ?_
    refine hs 19 40 rfl HS2.out ?_
    refine hs 20 41 rfl HS2.out ?_
    refine hp 21 42 (.bool true) rfl HS2.out ?_
    refine hp 22 43 (.bool true) rfl HS2.out ?_
    refine hs 23 44 rfl HS2.out ?_
    refine hs 24 45 rfl HS2.out ?_
    refine hs 25 46 rfl HS2.out ?_
    refine hs 26 47 rfl HS2.out ?_
    refine hs 27 48 rfl HS2.out ?_
    refine hp 28 49 (.bool true) rfl HS2.out ?_
    refine hp 29 50 (.bool true) rfl HS2.out ?_
    refine hs 30 51 rfl HS2.out ?_
    refine hs 31 52 rfl HS2.out ?_
    refine hs 32 53 rfl HS2.out ?_
    refine hp 33 54 (.bool true) rfl HS2.out ?_
    refine hp 34 55 (.bool true) rfl HS2.out ?_
    refine hs 35 56 rfl HS2.out ?_
    refine hs 36 57 rfl HS2.out ?_
    refine hs 37 58 rfl HS2.out ?_
    refine hp 38 59 (.bool true) rfl HS2.out ?_
    refine wpAnyH_done (by kernel_rfl) ?_ _
    have HFin := Lib.hid (HGV.out.then_non HS2.out)
    go_wp2_with fail
    go_ret
    exact ⟨rfl, HFin.out⟩
   ·have hc1d : decide (n > 1073741824) = false := by rw [decide_eq_false_iff_not]; exact hc1
    refine hp 12 33 (.bool false) rfl HS2.out ?_
    refine hp 13 34 (.bool false) rfl HS2.out ?_
    refine hp 14 35 (.bool false) rfl HS2.out ?_
    have Hhc1 := Lib.hid hc1
    clear hc1 hc1d
    refine hp 15 36 (.int .i64 m) rfl HS2.out ?_
    by_cases hc2 : m < 1
    ·have hc2d : decide (m < 1) = true := by rw [decide_eq_true_eq]; exact hc2
     refine hp 16 37 (.bool true) rfl HS2.out ?_
     refine hp 17 38 (.bool true) rfl HS2.out ?_
     refine hp 18 39 (.bool true) rfl HS2.out ?_
     refine hs 19 40 rfl HS2.out ?_
     refine hs 20 41 rfl HS2.out ?_
     refine hp 21 42 (.bool true) rfl HS2.out ?_
     refine hp 22 43 (.bool true) rfl HS2.out ?_
     refine hs 23 44 rfl HS2.out ?_
     refine hs 24 45 rfl HS2.out ?_
     refine hs 25 46 rfl HS2.out ?_
     refine hs 26 47 rfl HS2.out ?_
     refine hs 27 48 rfl HS2.out ?_
     refine hp 28 49 (.bool true) rfl HS2.out ?_
     refine hp 29 50 (.bool true) rfl HS2.out ?_
     refine hs 30 51 rfl HS2.out ?_
     refine hs 31 52 rfl HS2.out ?_
     refine hs 32 53 rfl HS2.out ?_
     refine hp 33 54 (.bool true) rfl HS2.out ?_
     refine hp 34 55 (.bool true) rfl HS2.out ?_
     refine hs 35 56 rfl HS2.out ?_
     refine hs 36 57 rfl HS2.out ?_
     refine hs 37 58 rfl HS2.out ?_
     refine hp 38 59 (.bool true) rfl HS2.out ?_
     refine wpAnyH_done (by kernel_rfl) ?_ _
     have HFin := Lib.hid (HGV.out.then_non HS2.out)
     go_wp2_with fail
     go_ret
     exact ⟨rfl, HFin.out⟩
    ·have hc2d : decide (m < 1) = false := by rw [decide_eq_false_iff_not]; exact hc2
     refine hp 16 37 (.bool false) rfl HS2.out ?_
     refine hp 17 38 (.bool false) rfl HS2.out ?_
     refine hp 18 39 (.bool false) rfl HS2.out ?_
     have Hhc2 := Lib.hid hc2
     clear hc2 hc2d
     refine hp 19 40 (.int .i64 m) rfl HS2.out ?_
     by_cases hc3 : m > 1073741824
     ·have hc3d : decide (m > 1073741824) = true := by rw [decide_eq_true_eq]; exact hc3
      refine hp 20 41 (.bool true) rfl HS2.out ?_
      refine hp 21 42 (.bool true) rfl HS2.out ?_
      refine hp 22 43 (.bool true) rfl HS2.out ?_
      refine hs 23 44 rfl HS2.out ?_
      refine hs 24 45 rfl HS2.out ?_
      refine hs 25 46 rfl HS2.out ?_
      refine hs 26 47 rfl HS2.out ?_
      refine hs 27 48 rfl HS2.out ?_
      refine hp 28 49 (.bool true) rfl HS2.out ?_
      refine hp 29 50 (.bool true) rfl HS2.out ?_
      refine hs 30 51 rfl HS2.out ?_
      refine hs 31 52 rfl HS2.out ?_
      refine hs 32 53 rfl HS2.out ?_
      refine hp 33 54 (.bool true) rfl HS2.out ?_
      refine hp 34 55 (.bool true) rfl HS2.out ?_
      refine hs 35 56 rfl HS2.out ?_
      refine hs 36 57 rfl HS2.out ?_
      refine hs 37 58 rfl HS2.out ?_
      refine hp 38 59 (.bool true) rfl HS2.out ?_
      refine wpAnyH_done (by kernel_rfl) ?_ _
      have HFin := Lib.hid (HGV.out.then_non HS2.out)
      go_wp2_with fail
      go_ret
      exact ⟨rfl, HFin.out⟩
     ·have hc3d : decide (m > 1073741824) = false := by rw [decide_eq_false_iff_not]; exact hc3
      refine hp 20 41 (.bool false) rfl HS2.out ?_
      refine hp 21 42 (.bool false) rfl HS2.out ?_
      refine hp 22 43 (.bool false) rfl HS2.out ?_
      have Hhc3 := Lib.hid hc3
      clear hc3 hc3d
      refine hp 23 44 (.int .i64 n) rfl HS2.out ?_
      refine hp 24 45 (.int .i64 (n.tmod 2)) rfl HS2.out ?_
      refine hp 25 46 (.int .i64 m) rfl HS2.out ?_
      refine hp 26 47 (.int .i64 (m.tmod 2)) rfl HS2.out ?_
      by_cases hq : n.tmod 2 = m.tmod 2
      ·have hqd : (n.tmod 2 == m.tmod 2) = true := by simpa using hq
       refine hp 27 48 (.bool true) rfl HS2.out ?_
       refine hp 28 49 (.bool true) rfl HS2.out ?_
       refine hp 29 50 (.bool true) rfl HS2.out ?_
       refine hs 30 51 rfl HS2.out ?_
       refine hs 31 52 rfl HS2.out ?_
       refine hs 32 53 rfl HS2.out ?_
       refine hp 33 54 (.bool true) rfl HS2.out ?_
       refine hp 34 55 (.bool true) rfl HS2.out ?_
       refine hs 35 56 rfl HS2.out ?_
       refine hs 36 57 rfl HS2.out ?_
       refine hs 37 58 rfl HS2.out ?_
       refine hp 38 59 (.bool true) rfl HS2.out ?_
       refine wpAnyH_done (by kernel_rfl) ?_ _
       have HFin := Lib.hid (HGV.out.then_non HS2.out)
       go_wp2_with fail
       go_ret
       exact ⟨rfl, HFin.out⟩
      ·have hqd : (n.tmod 2 == m.tmod 2) = false := by simpa using hq
       refine hp 27 48 (.bool false) rfl HS2.out ?_
       refine hp 28 49 (.bool false) rfl HS2.out ?_
       refine hp 29 50 (.bool false) rfl HS2.out ?_
       have Hhq := Lib.hid hq
       clear hq hqd
       refine h_load 30 (some 51) 25 (.tmp 4) b4 0 #[.int .i64 a.frames, .slice A1 a.parts.length c1, .slice A2 a.queues.length c2] _ rfl (by kernel_rfl) (by kernel_rfl) (by kernel_rfl) (by kernel_rfl) (by kernel_rfl) (fun _ _ _ h => h) (by kernel_rfl) (by kernel_rfl) (fun W hW => range_keepS HRa.out hW (fun e => e)) Tryz.underlying25 rfl info_st HS2.out ?_
       try simp only [Act.put, sA, sB, sC]
       refine h_one 31 (by kernel_rfl) rfl (by kernel_rfl) ?_
       intro K hK
       go_simp
       refine (HMa.out _ HS2.out).mono ?_
       rintro e w31 ⟨rfl, hgu⟩
       have HS2m := Lib.hid (HS2.out.then_non hgu)
       refine hK.out _ _ HS2m.out (fun _ => ?_)
       clear hK K hgu
       try simp only [Act.put, sA, sB, sC]
       cases hma : mayS a with
       | false =>
        refine hp 32 53 (.bool true) rfl HS2m.out ?_
        refine hp 33 54 (.bool true) rfl HS2m.out ?_
        refine hp 34 55 (.bool true) rfl HS2m.out ?_
        refine hs 35 56 rfl HS2m.out ?_
        refine hs 36 57 rfl HS2m.out ?_
        refine hs 37 58 rfl HS2m.out ?_
        refine hp 38 59 (.bool true) rfl HS2m.out ?_
        refine wpAnyH_done (by kernel_rfl) ?_ _
        have HFin := Lib.hid (HGV.out.then_non HS2m.out)
        go_wp2_with fail
        go_ret
        exact ⟨rfl, HFin.out⟩
       | true =>
        refine hp 32 53 (.bool false) rfl HS2m.out ?_
        refine hp 33 54 (.bool false) rfl HS2m.out ?_
        refine hp 34 55 (.bool false) rfl HS2m.out ?_
        refine h_load 35 (some 56) 25 (.tmp 5) (b4 + 1) 0 #[.int .i64 b.frames, .slice A3 b.parts.length c3, .slice A4 b.queues.length c4] _ rfl (by kernel_rfl) (by kernel_rfl) (by kernel_rfl) (by kernel_rfl) (by kernel_rfl) (fun _ _ _ h => h) (by kernel_rfl) (by kernel_rfl) (fun W hW => range_keepS HRb.out hW (fun e => e)) Tryz.underlying25 rfl info_st HS2m.out ?_
        try simp only [Act.put, sA, sB, sC]
        refine h_one 36 (by kernel_rfl) rfl (by kernel_rfl) ?_
        intro K hK
        go_simp
        refine (HMb.out _ HS2m.out).mono ?_
        rintro e w36 ⟨rfl, hgu⟩
        have HS2mm := Lib.hid (HS2m.out.then_non hgu)
        refine hK.out _ _ HS2mm.out (fun _ => ?_)
        clear hK K hgu
        try simp only [Act.put, sA, sB, sC]
        cases hmb : mayS b with
        | false =>
         refine hp 37 58 (.bool true) rfl HS2mm.out ?_
         refine hp 38 59 (.bool true) rfl HS2mm.out ?_
         refine wpAnyH_done (by kernel_rfl) ?_ _
         have HFin := Lib.hid (HGV.out.then_non HS2mm.out)
         go_wp2_with fail
         go_ret
         exact ⟨rfl, HFin.out⟩
        | true =>
         refine hp 37 58 (.bool false) rfl HS2mm.out ?_
         refine hp 38 59 (.bool false) rfl HS2mm.out ?_
         refine wpAnyH_done (by kernel_rfl) ?_ _
         have HG3 := Lib.hid (HGV.out.then_non HS2mm.out)
         have HB3 := Lib.hid (And.intro (blk_keep HBaV.out HS2mm.out (fun e => e)) (blk_keep HBbV.out HS2mm.out (fun e => e)))
         have hn1 : 1 ≤ n := by have := Hhc0.out; omega
         have hn2 : n ≤ 1073741824 := by have := Hhc1.out; omega
         have hm1 : 1 ≤ m := by have := Hhc2.out; omega
         have hm2 : m ≤ 1073741824 := by have := Hhc3.out; omega
         have hpar : n % 2 ≠ m % 2 := by
          have := Hhq.out
          rw [Int.tmod_eq_emod_of_nonneg (by omega), Int.tmod_eq_emod_of_nonneg (by omega)] at this
          exact this
         obtain ⟨q1, q2, hbk⟩ := back_disks (t1 := tagN 1) (t2 := tagN 2) (tagN_len 1) (tagN_len 2) hn1 hn2 hm1 hm2 hpar hma hmb (stBd_may hma HVa.out.bds) (stBd_may hmb HVb.out.bds)
         have HBd := Lib.hid (And.intro (And.intro hn1 hn2) (And.intro hm1 (And.intro hm2 (show n ≠ m from fun e => hpar (by rw [e])))))
         clear hn1 hn2 hm1 hm2 hpar hma hmb Hhc0 Hhc1 Hhc2 Hhc3 Hhq HWa HWb HMa HMb HS HS1 HS2 HS2m HS2mm
         obtain ⟨D0, hD0⟩ : ∃ D, Dk.new 323 = D := ⟨_, rfl⟩
         have h0 := new_rest
         have HNew := Lib.hid (New_ok 323 w36 (by omega) (by omega))
         rw [hD0] at q1 q2 hbk h0 HNew
         obtain ⟨y1, hy1⟩ : ∃ y, kPutR D0 n (tagN 1) a = y := ⟨_, rfl⟩
         rw [hy1] at q1 q2 hbk
         obtain ⟨D1, z1⟩ := y1
         simp only at q1 q2 hbk
         subst q1
         obtain ⟨y2, hy2⟩ : ∃ y, kPutR D1 m (tagN 2) b = y := ⟨_, rfl⟩
         rw [hy2] at q2 hbk
         obtain ⟨D2, z2⟩ := y2
         simp only at q2 hbk
         subst q2
         have HP1 := Lib.hid (fun pd ps pm W (hD : IsD W pd ps pm D0) (hs : StaV I W a (.slice A1 a.parts.length c1) (.slice A2 a.queues.length c2)) (hw : w.heap.size ≤ W.heap.size) => kPut_in I pd ps pm D0 n (tagN 1) a _ _ W hD h0.sz (by rw [h0.len]; omega) hs (fun b hb => Nat.lt_of_lt_of_le (hI b hb) hw) (tagN_len 1) ⟨by have := HBd.out; omega, by have := HBd.out; omega⟩)
         have HP2 := Lib.hid (fun pd ps pm W (hD : IsD W pd ps pm D1) (hs : StaV I W b (.slice A3 b.parts.length c3) (.slice A4 b.queues.length c4)) (hw : w.heap.size ≤ W.heap.size) => kPut_in I pd ps pm D1 m (tagN 2) b _ _ W hD hbk.r1.sz (by rw [hbk.r1.len]; omega) hs (fun b hb => Nat.lt_of_lt_of_le (hI b hb) hw) (tagN_len 2) ⟨by have := HBd.out; omega, by have := HBd.out; omega⟩)
         rw [hy1] at HP1
         rw [hy2] at HP2
         have HBk := Lib.hid hbk
         clear hy1 hy2 hD0 h0 hbk
         go_wp2_with fail
         refine HNew.out.mono ?_
         rintro e u1 ⟨pd, ps, pm, rfl, hD, hp1, hp2, hp3, hg⟩
         have HD := Lib.hid hD
         have HG := Lib.hid (HG3.out.then_non hg)
         have HBu := Lib.hid (And.intro (blk_keep HB3.out.1 hg (fun e => e)) (blk_keep HB3.out.2 hg (fun e => e)))
         have hl5 := blk_lt HB3.out.2
         have HDS : Hid (∀ k, DS pd ps pm k → w.heap.size ≤ k ∧ b4 + 1 < k) := Lib.hid (fun k e => by have := HG3.out.size; rcases e with e | e | e <;> omega)
         clear hD hg hp1 hp2 hp3 HNew HB3 HG3 hl5 HGV HGu HBa HBb HBaV HBbV HRa HRb
         go_wp2_with (first
           | (refine sel (some 73) (.build 28 _) ?_; refine wpList_pureW (some 73) (.agg (tagA (tagN 1))) rfl (by kernel_rfl) (by kernel_rfl) ?_)
           | (refine sel (some 74) (.load 25 (.tmp 4)) ?_; refine wpList_loadW (some 74) 25 (.tmp 4) b4 0 #[.int .i64 a.frames, .slice A1 a.parts.length c1, .slice A2 a.queues.length c2] _ rfl rfl (by kernel_rfl) rfl (blk_range HBu.out.1) Tryz.underlying25 rfl info_st ?_))
         refine (HP1.out pd ps pm u1 HD.out (HVa.out.non HG.out) HG.out.size).mono ?_
         rintro e v1 ⟨rfl, hD, hg⟩
         have HD1 := Lib.hid hD
         have HG1 := Lib.hid (HG.out.then_new hg (fun x e => (HDS.out x e).1))
         have HBv := Lib.hid (And.intro (blk_keep HBu.out.1 hg (fun e => by have := HDS.out _ e; omega)) (blk_keep HBu.out.2 hg (fun e => by have := HDS.out _ e; omega)))
         clear hD hg HD HG HBu
         go_wp2_with (first
           | (refine sel (some 81) (.build 28 _) ?_; refine wpList_pureW (some 81) (.agg (tagA (tagN 2))) rfl (by kernel_rfl) (by kernel_rfl) ?_)
           | (refine sel (some 82) (.load 25 (.tmp 5)) ?_; refine wpList_loadW (some 82) 25 (.tmp 5) (b4 + 1) 0 #[.int .i64 b.frames, .slice A3 b.parts.length c3, .slice A4 b.queues.length c4] _ rfl rfl (by kernel_rfl) rfl (blk_range HBv.out.2) Tryz.underlying25 rfl info_st ?_))
         refine (HP2.out pd ps pm v1 HD1.out (HVb.out.non HG1.out) HG1.out.size).mono ?_
         rintro e v2 ⟨rfl, hD, hg⟩
         have HD2 := Lib.hid hD
         have HG2 := Lib.hid (HG1.out.then_new hg (fun x e => (HDS.out x e).1))
         have HBw := Lib.hid (And.intro (blk_keep HBv.out.1 hg (fun e => by have := HDS.out _ e; omega)) (blk_keep HBv.out.2 hg (fun e => by have := HDS.out _ e; omega)))
         clear hD hg HD1 HG1 HBv HP1 HP2
         go_wp2_with fail
         refine (Get_in pd ps pm D2 v2 HD2.out (by rw [HBk.out.r2.len]; omega)).mono ?_
         rintro e u3 ⟨hf, hg⟩
         by_cases hnm : m < n
         case pos =>
          obtain ⟨vs1, vs2, rfl, hso⟩ := getF_some HBk.out.r2.up (by rw [HBk.out.r2.len]; omega) (HBk.out.get hnm) hf
          obtain ⟨S1, s1, rfl, _, _, _⟩ := hso.ps.rd
          obtain ⟨S2, s2, rfl, _, _, _⟩ := hso.qs.rd
          have HSo := Lib.hid hso.staV
          have HD3 := Lib.hid (HD2.out.non hg)
          have HG3 := Lib.hid (HG2.out.then_non hg)
          have HB3 := Lib.hid (And.intro (blk_keep HBw.out.1 hg (fun e => e)) (blk_keep HBw.out.2 hg (fun e => e)))
          have hnmd : decide (n > m) = true := by rw [decide_eq_true_eq]; exact hnm
          have HK := Lib.hid (HBk.out.zero hnm)
          clear hf hg hso HD2 HG2 HBw hnm
          obtain ⟨bt, hbt⟩ : ∃ b, u3.heap.size = b := ⟨_, rfl⟩
          have hzt : ∀ o o2, ((u3.alloc o).alloc o2).heap[bt]? = some o := fun o o2 => by rw [← hbt]; exact heap_alloc2_old _ _ _
          have hzs : ∀ o o2, ((u3.alloc o).alloc o2).heap[bt + 1]? = some o2 := fun o o2 => by rw [← hbt]; exact heap_alloc2_new _ _ _
          have hgo : ∀ o o2, Chg Non u3 ((u3.alloc o).alloc o2) := fun o o2 => ((Chg.refl Non u3).alloc o).alloc o2
          go_wp2_with (first
            | (refine sel none (.store 28 (.tmp 12) (.tmp 90)) ?_
               refine wpList_store_rowA rfl 28 (.tmp 12) (.tmp 90) rfl bt (tagA (tagN 1)) rfl rfl 28 _ (hzt _ _) (by rw [tagA_size _ (by kernel_rfl)]; exact info_tag) rfl (tagA_one _) ?_
               intro W3 hg3 hb3
               have hs3 := blk_keep (hzs (.cells (tagA zTag) 28) (.cells zStC 25)) hg3 (fun e => by have e : bt + 1 = bt := e; omega)
               have hG3 := (hgo (.cells (tagA zTag) 28) (.cells zStC 25)).then_new hg3 (fun x e => by have e : x = bt := e; omega))
            | (refine sel none (.store 25 (.tmp 13) (.tmp 91)) ?_
               refine wpList_store_rowA rfl 25 (.tmp 13) (.tmp 91) rfl (bt + 1) #[.int .i64 a.frames, .slice S1 a.parts.length s1, .slice S2 a.queues.length s2] rfl rfl 25 _ hs3 info_st rfl (by kernel_rfl) ?_
               intro W4 hg4 hb4
               have HT := Lib.hid (blk_keep hb3 hg4 (fun e => by have e : bt = bt + 1 := e; omega))
               have HSt := Lib.hid hb4
               have HG4 := Lib.hid (hG3.then_new hg4 (fun x e => by have e : x = bt + 1 := e; omega))
               have cf := blk_cell hb4 0 (v := .int .i64 a.frames) rfl
               clear hs3 hG3 hg3 hb3 hg4 hb4)
            | (refine sel (some 104) (.load 28 (.tmp 12)) ?_; refine wpList_loadW (some 104) 28 (.tmp 12) bt 0 (tagA (tagN 1)) _ rfl rfl (by kernel_rfl) rfl (blk_range HT.out) Tryz.underlying28 rfl (by rw [tagA_size _ (by kernel_rfl)]; exact info_tag) ?_)
            | (refine sel (some 105) (.build 28 _) ?_; refine wpList_pureW (some 105) (.agg (tagA (tagN 1))) rfl (by kernel_rfl) (by kernel_rfl) ?_)
            | (refine sel (some 106) (.binOp .neq 28 (.tmp 104) (.tmp 105) 28) ?_; refine wpList_pureW (some 106) (.bool false) rfl (by kernel_rfl) (by kernel_rfl) ?_)
            | (refine sel (some 109) (.load 25 (.tmp 13)) ?_; refine wpList_loadW (some 109) 25 (.tmp 13) (bt + 1) 0 #[.int .i64 a.frames, .slice S1 a.parts.length s1, .slice S2 a.queues.length s2] _ rfl rfl (by kernel_rfl) rfl (blk_range HSt.out) Tryz.underlying25 rfl info_st ?_)
            | (refine sel (some 110) (.load 25 (.tmp 4)) ?_; refine wpList_loadW (some 110) 25 (.tmp 4) b4 0 #[.int .i64 a.frames, .slice A1 a.parts.length c1, .slice A2 a.queues.length c2] _ rfl rfl (by kernel_rfl) rfl (blk_range (blk_keep HB3.out.1 HG4.out (fun e => e))) Tryz.underlying25 rfl info_st ?_))
          have HD4 := Lib.hid (HD3.out.non HG4.out)
          have HG5 := Lib.hid (HG3.out.then_non HG4.out)
          have HB4 := Lib.hid (And.intro (blk_keep HB3.out.1 HG4.out (fun e => e)) (blk_keep HB3.out.2 HG4.out (fun e => e)))
          have HSo4 := Lib.hid (HSo.out.non HG4.out)
          clear HD3 HG3 HB3 HSo HG4 cf HT HSt hbt hzt hzs hgo
          refine (r21_eq _ I a _ _ _ _ _ HSo4.out (HVa.out.non HG5.out)).mono ?_
          rintro e u4 ⟨rfl, hg⟩
          have HD5 := Lib.hid (HD4.out.non hg)
          have HG6 := Lib.hid (HG5.out.then_non hg)
          have HB5 := Lib.hid (And.intro (blk_keep HB4.out.1 hg (fun e => e)) (blk_keep HB4.out.2 hg (fun e => e)))
          clear hg HD4 HG5 HB4 HSo4
          have htm : n.tmod 2 = (plc n : Int) := by
           rw [Int.tmod_eq_emod_of_nonneg (by have := HBd.out; omega)]; exact plc_mod n
          have hpl := plc_lt n
          have hmk := fun W => mk_bytes (64 : Int) (by omega) (by omega) W
          have HZh := Lib.hid (zero_head HBk.out.r2 HBk.out.left (plc n) hpl)
          have HWz := Lib.hid (fun (W : World) (hg : Chg Non u4 W) A hr hn => Write_any pd ps pm D2 ((131 + 96 * plc n : Nat) : Int) A (List.replicate 64 0) 64 W (HD5.out.non hg) HBk.out.r2.sz hr hn)
          rw [List.length_replicate] at HWz
          have hca : ((131 + 96 * plc n : Nat) : Int) = 131 + 96 * (plc n : Int) := by omega
          rw [hca] at HK HZh HWz
          clear hca
          obtain ⟨p, hpp⟩ : ∃ p, plc n = p := ⟨_, rfl⟩
          rw [hpp] at htm hpl HK HZh HWz
          obtain ⟨y3, hy3⟩ : ∃ y, D2.write (131 + 96 * (p : Int)) (List.replicate 64 0) = y := ⟨_, rfl⟩
          rw [hy3] at HK HZh HWz
          obtain ⟨D3, z3⟩ := y3
          simp only at HK HZh HWz
          have hlpd := HD5.out.lt
          clear hy3 hpp
          go_wp2_with fail
          refine (HWz.out _ ((Chg.refl _ _).alloc _) _ (zeros_own u4 64 5).rd (fun b o e _ => by injection e with e; injection e with e; omega)).mono ?_
          rintro e u5 ⟨rfl, hD, hg⟩
          have hg5 : Chg (DS pd ps pm) u4 u5 := ((Chg.refl Non u4).alloc _).non_then hg
          have HD6 := Lib.hid hD
          have HG7 := Lib.hid (HG6.out.then_new hg5 (fun x e => (HDS.out x e).1))
          have HB6 := Lib.hid (And.intro (blk_keep HB5.out.1 hg5 (fun e => by have := HDS.out _ e; omega)) (blk_keep HB5.out.2 hg5 (fun e => by have := HDS.out _ e; omega)))
          clear hD hg hg5 HD5 HG6 HB5 HWz hmk htm hpl hlpd
          go_wp2_with fail
          refine (Get_in pd ps pm D3 u5 HD6.out (by rw [HZh.out.2.2.1]; omega)).mono ?_
          rintro e u6 ⟨hf, hg⟩
          obtain ⟨vs1, vs2, rfl, hso⟩ := getF_some HZh.out.2.1 (by rw [HZh.out.2.2.1]; omega) HK.out hf
          obtain ⟨S3, s3, rfl, _, _, _⟩ := hso.ps.rd
          obtain ⟨S4, s4, rfl, _, _, _⟩ := hso.qs.rd
          have HSo := Lib.hid hso.staV
          have HG8 := Lib.hid (HG7.out.then_non hg)
          have HB7 := Lib.hid (And.intro (blk_keep HB6.out.1 hg (fun e => e)) (blk_keep HB6.out.2 hg (fun e => e)))
          clear hf hg hso HD6 HG7 HB6
          obtain ⟨bt, hbt⟩ : ∃ b, u6.heap.size = b := ⟨_, rfl⟩
          have hzt : ∀ o o2, ((u6.alloc o).alloc o2).heap[bt]? = some o := fun o o2 => by rw [← hbt]; exact heap_alloc2_old _ _ _
          have hzs : ∀ o o2, ((u6.alloc o).alloc o2).heap[bt + 1]? = some o2 := fun o o2 => by rw [← hbt]; exact heap_alloc2_new _ _ _
          have hgo : ∀ o o2, Chg Non u6 ((u6.alloc o).alloc o2) := fun o o2 => ((Chg.refl Non u6).alloc o).alloc o2
          go_wp2_with (first
            | (refine sel none (.store 28 (.tmp 16) (.tmp 143)) ?_
               refine wpList_store_rowA rfl 28 (.tmp 16) (.tmp 143) rfl bt (tagA (tagN 2)) rfl rfl 28 _ (hzt _ _) (by rw [tagA_size _ (by kernel_rfl)]; exact info_tag) rfl (tagA_one _) ?_
               intro W3 hg3 hb3
               have hs3 := blk_keep (hzs (.cells (tagA zTag) 28) (.cells zStC 25)) hg3 (fun e => by have e : bt + 1 = bt := e; omega)
               have hG3 := (hgo (.cells (tagA zTag) 28) (.cells zStC 25)).then_new hg3 (fun x e => by have e : x = bt := e; omega))
            | (refine sel none (.store 25 (.tmp 17) (.tmp 144)) ?_
               refine wpList_store_rowA rfl 25 (.tmp 17) (.tmp 144) rfl (bt + 1) #[.int .i64 b.frames, .slice S3 b.parts.length s3, .slice S4 b.queues.length s4] rfl rfl 25 _ hs3 info_st rfl (by kernel_rfl) ?_
               intro W4 hg4 hb4
               have HT := Lib.hid (blk_keep hb3 hg4 (fun e => by have e : bt = bt + 1 := e; omega))
               have HSt := Lib.hid hb4
               have HG4 := Lib.hid (hG3.then_new hg4 (fun x e => by have e : x = bt + 1 := e; omega))
               have cf := blk_cell hb4 0 (v := .int .i64 b.frames) rfl
               clear hs3 hG3 hg3 hb3 hg4 hb4)
            | (refine sel (some 157) (.load 25 (.tmp 17)) ?_; refine wpList_loadW (some 157) 25 (.tmp 17) (bt + 1) 0 #[.int .i64 b.frames, .slice S3 b.parts.length s3, .slice S4 b.queues.length s4] _ rfl rfl (by kernel_rfl) rfl (blk_range HSt.out) Tryz.underlying25 rfl info_st ?_)
            | (refine sel (some 158) (.load 25 (.tmp 5)) ?_; refine wpList_loadW (some 158) 25 (.tmp 5) (b4 + 1) 0 #[.int .i64 b.frames, .slice A3 b.parts.length c3, .slice A4 b.queues.length c4] _ rfl rfl (by kernel_rfl) rfl (blk_range (blk_keep HB7.out.2 HG4.out (fun e => e))) Tryz.underlying25 rfl info_st ?_))
          have HG9 := Lib.hid (HG8.out.then_non HG4.out)
          have HSo4 := Lib.hid (HSo.out.non HG4.out)
          clear HG8 HB7 HSo HG4 cf HT HSt hbt hzt hzs hgo
          refine (r21_eq _ I b _ _ _ _ _ HSo4.out (HVb.out.non HG9.out)).mono ?_
          rintro e u7 ⟨rfl, hg⟩
          have HGa := Lib.hid (HG9.out.then_non hg)
          clear hg HG9 HSo4
          go_wp2_with fail
          go_ret
          exact ⟨rfl, HGa.out⟩
         case neg =>
          have hnm2 : n < m := by have := HBd.out; omega
          obtain ⟨vs1, vs2, rfl, hso⟩ := getF_some HBk.out.r2.up (by rw [HBk.out.r2.len]; omega) (HBk.out.get2 hnm2) hf
          obtain ⟨S1, s1, rfl, _, _, _⟩ := hso.ps.rd
          obtain ⟨S2, s2, rfl, _, _, _⟩ := hso.qs.rd
          have HSo := Lib.hid hso.staV
          have HD3 := Lib.hid (HD2.out.non hg)
          have HG3 := Lib.hid (HG2.out.then_non hg)
          have HB3 := Lib.hid (And.intro (blk_keep HBw.out.1 hg (fun e => e)) (blk_keep HBw.out.2 hg (fun e => e)))
          have hnmd : decide (n > m) = false := by rw [decide_eq_false_iff_not]; omega
          have HK := Lib.hid (HBk.out.zero2 hnm2)
          clear hf hg hso HD2 HG2 HBw hnm hnm2
          obtain ⟨bt, hbt⟩ : ∃ b, u3.heap.size = b := ⟨_, rfl⟩
          have hzt : ∀ o o2, ((u3.alloc o).alloc o2).heap[bt]? = some o := fun o o2 => by rw [← hbt]; exact heap_alloc2_old _ _ _
          have hzs : ∀ o o2, ((u3.alloc o).alloc o2).heap[bt + 1]? = some o2 := fun o o2 => by rw [← hbt]; exact heap_alloc2_new _ _ _
          have hgo : ∀ o o2, Chg Non u3 ((u3.alloc o).alloc o2) := fun o o2 => ((Chg.refl Non u3).alloc o).alloc o2
          go_wp2_with (first
            | (refine sel none (.store 28 (.tmp 12) (.tmp 90)) ?_
               refine wpList_store_rowA rfl 28 (.tmp 12) (.tmp 90) rfl bt (tagA (tagN 2)) rfl rfl 28 _ (hzt _ _) (by rw [tagA_size _ (by kernel_rfl)]; exact info_tag) rfl (tagA_one _) ?_
               intro W3 hg3 hb3
               have hs3 := blk_keep (hzs (.cells (tagA zTag) 28) (.cells zStC 25)) hg3 (fun e => by have e : bt + 1 = bt := e; omega)
               have hG3 := (hgo (.cells (tagA zTag) 28) (.cells zStC 25)).then_new hg3 (fun x e => by have e : x = bt := e; omega))
            | (refine sel none (.store 25 (.tmp 13) (.tmp 91)) ?_
               refine wpList_store_rowA rfl 25 (.tmp 13) (.tmp 91) rfl (bt + 1) #[.int .i64 b.frames, .slice S1 b.parts.length s1, .slice S2 b.queues.length s2] rfl rfl 25 _ hs3 info_st rfl (by kernel_rfl) ?_
               intro W4 hg4 hb4
               have HT := Lib.hid (blk_keep hb3 hg4 (fun e => by have e : bt = bt + 1 := e; omega))
               have HSt := Lib.hid hb4
               have HG4 := Lib.hid (hG3.then_new hg4 (fun x e => by have e : x = bt + 1 := e; omega))
               have cf := blk_cell hb4 0 (v := .int .i64 b.frames) rfl
               clear hs3 hG3 hg3 hb3 hg4 hb4)
            | (refine sel (some 122) (.load 28 (.tmp 12)) ?_; refine wpList_loadW (some 122) 28 (.tmp 12) bt 0 (tagA (tagN 2)) _ rfl rfl (by kernel_rfl) rfl (blk_range HT.out) Tryz.underlying28 rfl (by rw [tagA_size _ (by kernel_rfl)]; exact info_tag) ?_)
            | (refine sel (some 123) (.build 28 _) ?_; refine wpList_pureW (some 123) (.agg (tagA (tagN 2))) rfl (by kernel_rfl) (by kernel_rfl) ?_)
            | (refine sel (some 124) (.binOp .neq 28 (.tmp 122) (.tmp 123) 28) ?_; refine wpList_pureW (some 124) (.bool false) rfl (by kernel_rfl) (by kernel_rfl) ?_)
            | (refine sel (some 127) (.load 25 (.tmp 13)) ?_; refine wpList_loadW (some 127) 25 (.tmp 13) (bt + 1) 0 #[.int .i64 b.frames, .slice S1 b.parts.length s1, .slice S2 b.queues.length s2] _ rfl rfl (by kernel_rfl) rfl (blk_range HSt.out) Tryz.underlying25 rfl info_st ?_)
            | (refine sel (some 128) (.load 25 (.tmp 5)) ?_; refine wpList_loadW (some 128) 25 (.tmp 5) (b4 + 1) 0 #[.int .i64 b.frames, .slice A3 b.parts.length c3, .slice A4 b.queues.length c4] _ rfl rfl (by kernel_rfl) rfl (blk_range (blk_keep HB3.out.2 HG4.out (fun e => e))) Tryz.underlying25 rfl info_st ?_))
          have HD4 := Lib.hid (HD3.out.non HG4.out)
          have HG5 := Lib.hid (HG3.out.then_non HG4.out)
          have HB4 := Lib.hid (And.intro (blk_keep HB3.out.1 HG4.out (fun e => e)) (blk_keep HB3.out.2 HG4.out (fun e => e)))
          have HSo4 := Lib.hid (HSo.out.non HG4.out)
          clear HD3 HG3 HB3 HSo HG4 cf HT HSt hbt hzt hzs hgo
          refine (r21_eq _ I b _ _ _ _ _ HSo4.out (HVb.out.non HG5.out)).mono ?_
          rintro e u4 ⟨rfl, hg⟩
          have HD5 := Lib.hid (HD4.out.non hg)
          have HG6 := Lib.hid (HG5.out.then_non hg)
          have HB5 := Lib.hid (And.intro (blk_keep HB4.out.1 hg (fun e => e)) (blk_keep HB4.out.2 hg (fun e => e)))
          clear hg HD4 HG5 HB4 HSo4
          have htm : m.tmod 2 = (plc m : Int) := by
           rw [Int.tmod_eq_emod_of_nonneg (by have := HBd.out; omega)]; exact plc_mod m
          have hpl := plc_lt m
          have hmk := fun W => mk_bytes (64 : Int) (by omega) (by omega) W
          have HZh := Lib.hid (zero_head HBk.out.r2 HBk.out.left (plc m) hpl)
          have HWz := Lib.hid (fun (W : World) (hg : Chg Non u4 W) A hr hn => Write_any pd ps pm D2 ((131 + 96 * plc m : Nat) : Int) A (List.replicate 64 0) 64 W (HD5.out.non hg) HBk.out.r2.sz hr hn)
          rw [List.length_replicate] at HWz
          have hca : ((131 + 96 * plc m : Nat) : Int) = 131 + 96 * (plc m : Int) := by omega
          rw [hca] at HK HZh HWz
          clear hca
          obtain ⟨p, hpp⟩ : ∃ p, plc m = p := ⟨_, rfl⟩
          rw [hpp] at htm hpl HK HZh HWz
          obtain ⟨y3, hy3⟩ : ∃ y, D2.write (131 + 96 * (p : Int)) (List.replicate 64 0) = y := ⟨_, rfl⟩
          rw [hy3] at HK HZh HWz
          obtain ⟨D3, z3⟩ := y3
          simp only at HK HZh HWz
          have hlpd := HD5.out.lt
          clear hy3 hpp
          go_wp2_with fail
          refine (HWz.out _ ((Chg.refl _ _).alloc _) _ (zeros_own u4 64 5).rd (fun b o e _ => by injection e with e; injection e with e; omega)).mono ?_
          rintro e u5 ⟨rfl, hD, hg⟩
          have hg5 : Chg (DS pd ps pm) u4 u5 := ((Chg.refl Non u4).alloc _).non_then hg
          have HD6 := Lib.hid hD
          have HG7 := Lib.hid (HG6.out.then_new hg5 (fun x e => (HDS.out x e).1))
          have HB6 := Lib.hid (And.intro (blk_keep HB5.out.1 hg5 (fun e => by have := HDS.out _ e; omega)) (blk_keep HB5.out.2 hg5 (fun e => by have := HDS.out _ e; omega)))
          clear hD hg hg5 HD5 HG6 HB5 HWz hmk htm hpl hlpd
          go_wp2_with fail
          refine (Get_in pd ps pm D3 u5 HD6.out (by rw [HZh.out.2.2.1]; omega)).mono ?_
          rintro e u6 ⟨hf, hg⟩
          obtain ⟨vs1, vs2, rfl, hso⟩ := getF_some HZh.out.2.1 (by rw [HZh.out.2.2.1]; omega) HK.out hf
          obtain ⟨S3, s3, rfl, _, _, _⟩ := hso.ps.rd
          obtain ⟨S4, s4, rfl, _, _, _⟩ := hso.qs.rd
          have HSo := Lib.hid hso.staV
          have HG8 := Lib.hid (HG7.out.then_non hg)
          have HB7 := Lib.hid (And.intro (blk_keep HB6.out.1 hg (fun e => e)) (blk_keep HB6.out.2 hg (fun e => e)))
          clear hf hg hso HD6 HG7 HB6
          obtain ⟨bt, hbt⟩ : ∃ b, u6.heap.size = b := ⟨_, rfl⟩
          have hzt : ∀ o o2, ((u6.alloc o).alloc o2).heap[bt]? = some o := fun o o2 => by rw [← hbt]; exact heap_alloc2_old _ _ _
          have hzs : ∀ o o2, ((u6.alloc o).alloc o2).heap[bt + 1]? = some o2 := fun o o2 => by rw [← hbt]; exact heap_alloc2_new _ _ _
          have hgo : ∀ o o2, Chg Non u6 ((u6.alloc o).alloc o2) := fun o o2 => ((Chg.refl Non u6).alloc o).alloc o2
          go_wp2_with (first
            | (refine sel none (.store 28 (.tmp 16) (.tmp 143)) ?_
               refine wpList_store_rowA rfl 28 (.tmp 16) (.tmp 143) rfl bt (tagA (tagN 1)) rfl rfl 28 _ (hzt _ _) (by rw [tagA_size _ (by kernel_rfl)]; exact info_tag) rfl (tagA_one _) ?_
               intro W3 hg3 hb3
               have hs3 := blk_keep (hzs (.cells (tagA zTag) 28) (.cells zStC 25)) hg3 (fun e => by have e : bt + 1 = bt := e; omega)
               have hG3 := (hgo (.cells (tagA zTag) 28) (.cells zStC 25)).then_new hg3 (fun x e => by have e : x = bt := e; omega))
            | (refine sel none (.store 25 (.tmp 17) (.tmp 144)) ?_
               refine wpList_store_rowA rfl 25 (.tmp 17) (.tmp 144) rfl (bt + 1) #[.int .i64 a.frames, .slice S3 a.parts.length s3, .slice S4 a.queues.length s4] rfl rfl 25 _ hs3 info_st rfl (by kernel_rfl) ?_
               intro W4 hg4 hb4
               have HT := Lib.hid (blk_keep hb3 hg4 (fun e => by have e : bt = bt + 1 := e; omega))
               have HSt := Lib.hid hb4
               have HG4 := Lib.hid (hG3.then_new hg4 (fun x e => by have e : x = bt + 1 := e; omega))
               have cf := blk_cell hb4 0 (v := .int .i64 a.frames) rfl
               clear hs3 hG3 hg3 hb3 hg4 hb4)
            | (refine sel (some 169) (.load 25 (.tmp 17)) ?_; refine wpList_loadW (some 169) 25 (.tmp 17) (bt + 1) 0 #[.int .i64 a.frames, .slice S3 a.parts.length s3, .slice S4 a.queues.length s4] _ rfl rfl (by kernel_rfl) rfl (blk_range HSt.out) Tryz.underlying25 rfl info_st ?_)
            | (refine sel (some 170) (.load 25 (.tmp 4)) ?_; refine wpList_loadW (some 170) 25 (.tmp 4) b4 0 #[.int .i64 a.frames, .slice A1 a.parts.length c1, .slice A2 a.queues.length c2] _ rfl rfl (by kernel_rfl) rfl (blk_range (blk_keep HB7.out.1 HG4.out (fun e => e))) Tryz.underlying25 rfl info_st ?_))
          have HG9 := Lib.hid (HG8.out.then_non HG4.out)
          have HSo4 := Lib.hid (HSo.out.non HG4.out)
          clear HG8 HB7 HSo HG4 cf HT HSt hbt hzt hzs hgo
          refine (r21_eq _ I a _ _ _ _ _ HSo4.out (HVa.out.non HG9.out)).mono ?_
          rintro e u7 ⟨rfl, hg⟩
          have HGa := Lib.hid (HG9.out.then_non hg)
          clear hg HG9 HSo4
          go_wp2_with fail
          go_ret
          exact ⟨rfl, HGa.out⟩
end Go.Proofs.YtkgnlobabknkcaaGreat
