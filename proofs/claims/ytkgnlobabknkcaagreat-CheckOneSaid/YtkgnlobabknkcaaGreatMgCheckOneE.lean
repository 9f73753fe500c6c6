/- The law CheckOne. (Written by wip/gen_cko.py.) -/
import Derived.Test.YtkgnlobabknkcaaGreatMgCheckBaseA
import Derived.Test.YtkgnlobabknkcaaGreatMgCheckBaseB
import Derived.Test.YtkgnlobabknkcaaGreatMgCheckBaseC
import Derived.Test.YtkgnlobabknkcaaGreatMgCheckBaseD
import Derived.Test.YtkgnlobabknkcaaGreatMgCheckBaseE
import Derived.Test.YtkgnlobabknkcaaGreatMgCheckBaseF
import Derived.Test.YtkgnlobabknkcaaGreatMgCheckBaseG
import Derived.Test.YtkgnlobabknkcaaGreatMgCheckBaseH
import Derived.Test.YtkgnlobabknkcaaGreatMgCheckBaseI
import Derived.Test.YtkgnlobabknkcaaGreatMgCheckBaseJ
import Derived.Test.YtkgnlobabknkcaaGreatMgCheckBaseK
import Derived.Test.YtkgnlobabknkcaaGreatMgCheckBaseL
import Derived.Test.YtkgnlobabknkcaaGreatMgCheckBaseM
import Derived.Test.YtkgnlobabknkcaaGreatMgCheckBaseN
import Derived.Test.YtkgnlobabknkcaaGreatMgCheckBaseO
import Derived.Test.YtkgnlobabknkcaaGreatMgCheckBaseP
import Derived.Test.YtkgnlobabknkcaaGreatMgCheckBaseQ
import Derived.Test.YtkgnlobabknkcaaGreatMgCheckBaseR
import Derived.Test.YtkgnlobabknkcaaGreatMgCheckBaseS
import Derived.Test.YtkgnlobabknkcaaGreatMgCheckBaseShelf
import Derived.Test.YtkgnlobabknkcaaGreatMgCheckBaseT
import Derived.Test.YtkgnlobabknkcaaGreatMgCheckBaseU
import Derived.Test.YtkgnlobabknkcaaGreatMgCheckOneC
namespace Go.Proofs.YtkgnlobabknkcaaGreat
set_option linter.unusedVariables false
set_option linter.unusedSimpArgs false
set_option maxHeartbeats 8000000
open Go.RowKit Go.Shelf
attribute [local go_sem] Oper.semAt_some

theorem tagI_e0 (W : World) : (do let v ← binOp .eql 28 (.agg (tagA (tagI 0))) (.agg (tagA (tagI 0))); pure (Next.value v) : Sem Next).run Tryz.prog W = .ok (.value (.bool true)) W := by kernel_rfl
theorem tagI_e1 (W : World) : (do let v ← binOp .eql 28 (.agg (tagA (tagI 1))) (.agg (tagA (tagI 1))); pure (Next.value v) : Sem Next).run Tryz.prog W = .ok (.value (.bool true)) W := by kernel_rfl
theorem tagI_e2 (W : World) : (do let v ← binOp .eql 28 (.agg (tagA (tagI 2))) (.agg (tagA (tagI 2))); pure (Next.value v) : Sem Next).run Tryz.prog W = .ok (.value (.bool true)) W := by kernel_rfl
theorem tagI_e3 (W : World) : (do let v ← binOp .eql 28 (.agg (tagA (tagI 3))) (.agg (tagA (tagI 3))); pure (Next.value v) : Sem Next).run Tryz.prog W = .ok (.value (.bool true)) W := by kernel_rfl
theorem tagI_eq (r : Nat) (hr : r < 4) (W : World) : (do let v ← binOp .eql 28 (.agg (tagA (tagI r))) (.agg (tagA (tagI r))); pure (Next.value v) : Sem Next).run Tryz.prog W = .ok (.value (.bool true)) W := by
 have : r = 0 ∨ r = 1 ∨ r = 2 ∨ r = 3 := by omega
 rcases this with rfl | rfl | rfl | rfl
 ·exact tagI_e0 W
 ·exact tagI_e1 W
 ·exact tagI_e2 W
 ·exact tagI_e3 W
set_option maxRecDepth 100000 in
theorem checkOne_walk (I : Nat → Prop) (L : Option Addr) (l : List Sta) (c : Nat) (s : Sta) (vb vd : Value) (m : Int) (B : Option Addr) (y : List UInt8) (cb : Nat) (w : World) (hr : RdL (stV I) I 3 w L l) (hc : l.length ≤ c) (hm : c ≤ maxLen)
  (hs : StaV I w s vb vd) (hI : ∀ b, I b → b < w.heap.size) (him : I64 m) (hy : Rd w B y) (hyc : y.length ≤ cb) :
  Calls Tryz.prog 6 #[.slice L l.length c, .agg #[.int .i64 s.frames, vb, vd], .int .i64 m, .slice B y.length cb] w fun e w' => e = .returned (.bool true) ∧ Chg Non w w' := by
 have HVs := Lib.hid hs
 have HY := Lib.hid hy
 have HR := Lib.hid (fun W (hg : Chg Non w W) => hr.keep hg (fun _ _ e => e) (fun a vs _ h => stV_non h hg))
 have HRo := Lib.hid (fun W (hg : Chg Non w W) => rows_ok I W L l c (hr.keep hg (fun _ _ e => e) (fun a vs _ h => stV_non h hg)) hc hm (fun b hb => Nat.lt_of_lt_of_le (hI b hb) hg.size))
 obtain ⟨⟨S1, s1, rfl, _, _, _⟩, ⟨S2, s2, rfl, _, _, _⟩⟩ := hs
 obtain ⟨q, hq⟩ : ∃ q, l.length = q := ⟨_, rfl⟩
 have HQ := Lib.hid hq
 rw [hq] at HRo hc ⊢
 unfold maxLen at hm
 clear hr hy hq
 go_enter Tryz.func6, Tryz.ntmps6
 go_wp2_with fail
 have hb0 := blk_new w (.cells #[.int .i64 s.frames, .slice S1 s.parts.length s1, .slice S2 s.queues.length s2] 25)
 obtain ⟨b5, hbe⟩ : ∃ x, w.heap.size = x := ⟨_, rfl⟩
 have hlb : b5 < (w.alloc (.cells #[.int .i64 s.frames, .slice S1 s.parts.length s1, .slice S2 s.queues.length s2] 25)).heap.size := by rw [← hbe]; simp
 rw [hbe] at hb0 ⊢
 have HBe := Lib.hid hbe
 clear hbe
 refine (awake_ok _).mono ?_
 rintro e u0 ⟨rfl, hgu⟩
 have HB := Lib.hid (blk_keep hb0 hgu (fun e => e))
 have HG := Lib.hid (((Chg.refl Non w).alloc (.cells #[.int .i64 s.frames, .slice S1 s.parts.length s1, .slice S2 s.queues.length s2] 25)).then_non hgu)
 clear hb0 hgu hlb
 by_cases h1 : m < 1
 ·have h1d : decide (m < 1) = true := by rw [decide_eq_true_eq]; exact h1
  go_wp2_with fail
  go_ret
  exact ⟨rfl, HG.out⟩
 have h1d : decide (m < 1) = false := by rw [decide_eq_false_iff_not]; exact h1
 by_cases h2 : 20 < y.length
 ·have h2d : decide ((y.length : Int) > 20) = true := by rw [decide_eq_true_eq]; omega
  go_wp2_with fail
  go_ret
  exact ⟨rfl, HG.out⟩
 have h2d : decide ((y.length : Int) > 20) = false := by rw [decide_eq_false_iff_not]; omega
 go_wp2_with (refine sel (some 26) (.load 25 (.tmp 5)) ?_; refine wpList_loadW (some 26) 25 (.tmp 5) b5 0 #[.int .i64 s.frames, .slice S1 s.parts.length s1, .slice S2 s.queues.length s2] _ rfl rfl (by kernel_rfl) rfl (blk_range HB.out) Tryz.underlying25 rfl info_st ?_)
 refine (weight_any I s _ _ u0 (HVs.out.non HG.out)).mono ?_
 rintro e u1 ⟨x, rfl, hg⟩
 have HG1 := Lib.hid (HG.out.then_non hg)
 have HB1 := Lib.hid (blk_keep HB.out hg (fun e => e))
 clear hg HG HB h1d h2d
 by_cases h3 : x > 12000
 ·have h3d : decide (x > 12000) = true := by rw [decide_eq_true_eq]; exact h3
  go_wp2_with fail
  go_ret
  exact ⟨rfl, HG1.out⟩
 have h3d : decide (x > 12000) = false := by rw [decide_eq_false_iff_not]; exact h3
 go_wp2_with fail
 refine (HRo.out u1 HG1.out).mono ?_
 have HM := Lib.hid (And.intro (show 1 ≤ m by omega) (show y.length ≤ 20 by omega))
 clear h1 h2 h3 h3d
 rintro e u2 (⟨rfl, hg⟩ | ⟨pd, ps, pm, D, rfl, hD, hW, hl1, hl4, hds, hg⟩)
 ·have HG2 := Lib.hid (HG1.out.then_non hg)
  clear hg
  go_wp2_with fail
  go_ret
  exact ⟨rfl, HG2.out⟩
 have HD := Lib.hid hD
 have HW := Lib.hid hW
 have HG2 := Lib.hid (HG1.out.then_non hg)
 have HB2 := Lib.hid (blk_keep HB1.out hg (fun e => e))
 have HDS : Hid (∀ k, DS pd ps pm k → w.heap.size ≤ k ∧ k ≠ b5) := Lib.hid (fun k e => by
   have h1 := hds k e
   have h2 := blk_lt HB1.out
   have h3 := HG1.out.size
   exact ⟨by omega, by omega⟩)
 obtain ⟨r, hr⟩ : ∃ r, q = r + 1 := ⟨q - 1, by omega⟩
 have HRr : Hid (q = r + 1 ∧ r < 4 ∧ (q : Int) - 1 = (r : Int)) := Lib.hid ⟨hr, by omega, by omega⟩
 obtain ⟨s0, hs0⟩ : ∃ s0, l[r]? = some s0 := ⟨_, List.getElem?_eq_getElem (by rw [HQ.out]; omega)⟩
 have HS0 := Lib.hid hs0
 have HLa : Hid (l.getLast? = some s0) := Lib.hid (by rw [List.getLast?_eq_getElem?, HQ.out, hr, Nat.add_sub_cancel]; exact hs0)
 clear hD hW hds hg hl1 hl4 hr hs0 HG1 HB1
 go_wp2_with (refine sel (some 38) (.load 25 (.tmp 5)) ?_; refine wpList_loadW (some 38) 25 (.tmp 5) b5 0 #[.int .i64 s.frames, .slice S1 s.parts.length s1, .slice S2 s.queues.length s2] _ rfl rfl (by kernel_rfl) rfl (blk_range HB2.out) Tryz.underlying25 rfl info_st ?_)
 refine (smay_ok I s _ _ u2 (HVs.out.non HG2.out)).mono ?_
 rintro e u3 ⟨rfl, hg⟩
 have HD1 := Lib.hid (HD.out.non hg)
 have HG3 := Lib.hid (HG2.out.then_non hg)
 have HB3 := Lib.hid (blk_keep HB2.out hg (fun e => e))
 clear hg HD HG2 HB2
 cases hms : mayS s with
 | false =>
  go_wp2_with fail
  go_ret
  exact ⟨rfl, HG3.out⟩
 | true =>
  have HMs := Lib.hid (And.intro hms (stBd_may hms HVs.out.bds))
  clear hms
  go_wp2_with fail
  refine (Arm_up pd ps pm D m B y cb _ HD1.out HW.out.c.r.up (HY.out.non HG3.out) (by have := HM.out; omega) HM.out.1).mono ?_
  rintro e v1 ⟨rfl, hD, hg⟩
  have HD2 := Lib.hid hD
  have HG4 := Lib.hid (HG3.out.then_new hg (fun x e => (HDS.out x e).1))
  have HB4 := Lib.hid (blk_keep HB3.out hg (fun e => (HDS.out _ e).2 rfl))
  clear hD hg HD1 HG3 HB3
  have HPt := Lib.hid (fun (W : World) (hg : Chg Non v1 W) => kPut_in I pd ps pm { D with left := m, stay := y } ((q : Int) + 1) (tagN 99) s _ _ W (HD2.out.non hg) ⟨by show y.length ≤ _; have := HM.out; omega, him.2⟩ (by show 323 ≤ D.sec.length; rw [HW.out.c.r.len]; omega) (HVs.out.non (HG4.out.then_non hg)) (fun b hb => Nat.lt_of_lt_of_le (hI b hb) (HG4.out.then_non hg).size) (tagN_len 99) ⟨by have := HRr.out; omega, by have := HRr.out; omega⟩)
  have hq4 : q ≤ 4 := by have := HRr.out; omega
  go_wp2_with (first
    | (refine sel (some 50) (.build 28 _) ?_; refine wpList_pureW (some 50) (.agg (tagA (tagN 99))) rfl (by kernel_rfl) (by kernel_rfl) ?_)
    | (refine sel (some 51) (.load 25 (.tmp 5)) ?_; refine wpList_loadW (some 51) 25 (.tmp 5) b5 0 #[.int .i64 s.frames, .slice S1 s.parts.length s1, .slice S2 s.queues.length s2] _ rfl rfl (by kernel_rfl) rfl (blk_range HB4.out) Tryz.underlying25 rfl info_st ?_))
  refine (HPt.out v1 (Chg.refl _ _)).mono ?_
  rintro e v2 ⟨rfl, hD, hg⟩
  have HD3 := Lib.hid hD
  have HG5 := Lib.hid (HG4.out.then_new hg (fun x e => (HDS.out x e).1))
  have HB5 := Lib.hid (blk_keep HB4.out hg (fun e => (HDS.out _ e).2 rfl))
  clear hD hg HD2 HG4 HB4 HPt
  have hql : (l.length : Int) = (q : Int) := by rw [HQ.out]
  by_cases hat : m ≤ 98
  case pos =>
   have hatd : decide (m > 98) = false := by rw [decide_eq_false_iff_not]; omega
   obtain ⟨k1, k2, k3, k4⟩ := one_no HW.out (by rw [HQ.out]; exact hq4) HLa.out HMs.out.1 HMs.out.2 HM.out.1 hat (y := y) (by have := HM.out; omega)
   rw [hql] at k1 k2 k3 k4
   rw [show l.length - 1 = r by rw [HQ.out, HRr.out.1]; rfl] at k4
   rw [k1]
   obtain ⟨F, hF⟩ : ∃ F, (kPutR { D with left := m, stay := y } ((q : Int) + 1) (tagN 99) s).1 = F := ⟨_, rfl⟩
   rw [hF] at k2 k3 k4 HD3
   have HK := Lib.hid (And.intro k2 (And.intro k3 k4))
   clear k1 k2 k3 k4 hF hql hat
   go_wp2_with fail
   refine (Up_ok pd ps pm F _ HD3.out).mono ?_
   rintro e u ⟨rfl, rfl⟩
   rw [HK.out.1]
   go_wp2_with fail
   refine (Start_any pd ps pm F _ HD3.out).mono ?_
   rintro e v3 ⟨rfl, hD, hg⟩
   have hst := start_at F HK.out.1
   rw [hst.2] at hD
   rw [hst.1]
   have HD4 := Lib.hid hD
   have HG6 := Lib.hid (HG5.out.then_new hg (fun x e => (HDS.out x e).1))
   have HB6 := Lib.hid (blk_keep HB5.out hg (fun e => (HDS.out _ e).2 rfl))
   clear hD hg hst HD3 HG5 HB5
   rcases HK.out.2.2 with hk | hk
   case inl =>
    go_wp2_with fail
    refine (Get_in pd ps pm { F with up := true } v3 HD4.out (by show 0 < _; rw [HK.out.2.1]; omega)).mono ?_
    rintro e u3 ⟨hf, hg⟩
    obtain ⟨vs1, vs2, rfl, hso⟩ := getF_some (D := { F with up := true }) rfl (by show 322 < _; rw [HK.out.2.1]; omega) hk hf
    obtain ⟨T1, t1, rfl, _, _, _⟩ := hso.ps.rd
    obtain ⟨T2, t2, rfl, _, _, _⟩ := hso.qs.rd
    have HSo := Lib.hid hso.staV
    have HG3 := Lib.hid (HG6.out.then_non hg)
    have HB3 := Lib.hid (blk_keep HB6.out hg (fun e => e))
    clear hf hg hso HD4 HG6 HB6
    obtain ⟨bt, hbt⟩ : ∃ b, u3.heap.size = b := ⟨_, rfl⟩
    have hzt : ∀ o o2, ((u3.alloc o).alloc o2).heap[bt]? = some o := fun o o2 => by rw [← hbt]; exact heap_alloc2_old _ _ _
    have hzs : ∀ o o2, ((u3.alloc o).alloc o2).heap[bt + 1]? = some o2 := fun o o2 => by rw [← hbt]; exact heap_alloc2_new _ _ _
    have hgo : ∀ o o2, Chg Non u3 ((u3.alloc o).alloc o2) := fun o o2 => ((Chg.refl Non u3).alloc o).alloc o2
    go_wp2_with (first
      | (refine sel none (.store 28 (.tmp 13) (.tmp 62)) ?_
         refine wpList_store_rowA rfl 28 (.tmp 13) (.tmp 62) rfl bt (tagA (tagN 99)) rfl rfl 28 _ (hzt _ _) (by rw [tagA_size _ (by kernel_rfl)]; exact info_tag) rfl (tagA_one _) ?_
         intro W3 hg3 hb3
         have hs3 := blk_keep (hzs (.cells (tagA zTag) 28) (.cells zStC 25)) hg3 (fun e => by have e : bt + 1 = bt := e; omega)
         have hG3 := (hgo (.cells (tagA zTag) 28) (.cells zStC 25)).then_new hg3 (fun x e => by have e : x = bt := e; omega))
      | (refine sel none (.store 25 (.tmp 14) (.tmp 63)) ?_
         refine wpList_store_rowA rfl 25 (.tmp 14) (.tmp 63) rfl (bt + 1) #[.int .i64 s.frames, .slice T1 s.parts.length t1, .slice T2 s.queues.length t2] rfl rfl 25 _ hs3 info_st rfl (by kernel_rfl) ?_
         intro W4 hg4 hb4
         have HT := Lib.hid (blk_keep hb3 hg4 (fun e => by have e : bt = bt + 1 := e; omega))
         have HSt := Lib.hid hb4
         have HG4 := Lib.hid (hG3.then_new hg4 (fun x e => by have e : x = bt + 1 := e; omega))
         have cf := blk_cell hb4 0 (v := .int .i64 s.frames) rfl
         clear hs3 hG3 hg3 hb3 hg4 hb4)
      | (refine sel (some 90) (.load 28 (.tmp 13)) ?_; refine wpList_loadW (some 90) 28 (.tmp 13) bt 0 (tagA (tagN 99)) _ rfl rfl (by kernel_rfl) rfl (blk_range HT.out) Tryz.underlying28 rfl (by rw [tagA_size _ (by kernel_rfl)]; exact info_tag) ?_)
      | (refine sel (some 91) (.build 28 _) ?_; refine wpList_pureW (some 91) (.agg (tagA (tagN 99))) rfl (by kernel_rfl) (by kernel_rfl) ?_)
      | (refine sel (some 92) (.binOp .eql 28 (.tmp 90) (.tmp 91) 28) ?_; refine wpList_pureW (some 92) (.bool true) rfl (by kernel_rfl) (by kernel_rfl) ?_)
      | (refine sel (some 94) (.load 25 (.tmp 14)) ?_; refine wpList_loadW (some 94) 25 (.tmp 14) (bt + 1) 0 #[.int .i64 s.frames, .slice T1 s.parts.length t1, .slice T2 s.queues.length t2] _ rfl rfl (by kernel_rfl) rfl (blk_range HSt.out) Tryz.underlying25 rfl info_st ?_)
      | (refine sel (some 95) (.load 25 (.tmp 5)) ?_; refine wpList_loadW (some 95) 25 (.tmp 5) b5 0 #[.int .i64 s.frames, .slice S1 s.parts.length s1, .slice S2 s.queues.length s2] _ rfl rfl (by kernel_rfl) rfl (blk_range (blk_keep HB3.out HG4.out (fun e => e))) Tryz.underlying25 rfl info_st ?_))
    have HG5 := Lib.hid (HG3.out.then_non HG4.out)
    have HSo4 := Lib.hid (HSo.out.non HG4.out)
    clear HG3 HB3 HSo HG4 cf HT HSt hbt hzt hzs hgo
    refine (r21_eq _ I s _ _ _ _ _ HSo4.out (HVs.out.non HG5.out)).mono ?_
    rintro e u7 ⟨rfl, hg⟩
    have HGa := Lib.hid (HG5.out.then_non hg)
    clear hg HG5 HSo4
    go_wp2_with fail
    go_ret
    exact ⟨rfl, HGa.out⟩
   case inr =>
    go_wp2_with fail
    refine (Get_in pd ps pm { F with up := true } v3 HD4.out (by show 0 < _; rw [HK.out.2.1]; omega)).mono ?_
    rintro e u3 ⟨hf, hg⟩
    obtain ⟨vs1, vs2, rfl, hso⟩ := getF_some (D := { F with up := true }) rfl (by show 322 < _; rw [HK.out.2.1]; omega) hk hf
    obtain ⟨T1, t1, rfl, _, _, _⟩ := hso.ps.rd
    obtain ⟨T2, t2, rfl, _, _, _⟩ := hso.qs.rd
    have HSo := Lib.hid hso.staV
    have HG3 := Lib.hid (HG6.out.then_non hg)
    have HB3 := Lib.hid (blk_keep HB6.out hg (fun e => e))
    clear hf hg hso HD4 HG6 HB6
    obtain ⟨bt, hbt⟩ : ∃ b, u3.heap.size = b := ⟨_, rfl⟩
    have hzt : ∀ o o2, ((u3.alloc o).alloc o2).heap[bt]? = some o := fun o o2 => by rw [← hbt]; exact heap_alloc2_old _ _ _
    have hzs : ∀ o o2, ((u3.alloc o).alloc o2).heap[bt + 1]? = some o2 := fun o o2 => by rw [← hbt]; exact heap_alloc2_new _ _ _
    have hgo : ∀ o o2, Chg Non u3 ((u3.alloc o).alloc o2) := fun o o2 => ((Chg.refl Non u3).alloc o).alloc o2
    have hqne : ((q : Int) == (q : Int) + 1) = false := by rw [beq_eq_false_iff_ne]; omega
    go_wp2_with (first
      | (refine sel none (.store 28 (.tmp 13) (.tmp 62)) ?_
         refine wpList_store_rowA rfl 28 (.tmp 13) (.tmp 62) rfl bt (tagA (tagI r)) rfl rfl 28 _ (hzt _ _) (by rw [tagA_size _ (by kernel_rfl)]; exact info_tag) rfl (tagA_one _) ?_
         intro W3 hg3 hb3
         have hs3 := blk_keep (hzs (.cells (tagA zTag) 28) (.cells zStC 25)) hg3 (fun e => by have e : bt + 1 = bt := e; omega)
         have hG3 := (hgo (.cells (tagA zTag) 28) (.cells zStC 25)).then_new hg3 (fun x e => by have e : x = bt := e; omega))
      | (refine sel none (.store 25 (.tmp 14) (.tmp 63)) ?_
         refine wpList_store_rowA rfl 25 (.tmp 14) (.tmp 63) rfl (bt + 1) #[.int .i64 s0.frames, .slice T1 s0.parts.length t1, .slice T2 s0.queues.length t2] rfl rfl 25 _ hs3 info_st rfl (by kernel_rfl) ?_
         intro W4 hg4 hb4
         have HT := Lib.hid (blk_keep hb3 hg4 (fun e => by have e : bt = bt + 1 := e; omega))
         have HSt := Lib.hid hb4
         have HG4 := Lib.hid (hG3.then_new hg4 (fun x e => by have e : x = bt + 1 := e; omega))
         have cf := blk_cell hb4 0 (v := .int .i64 s0.frames) rfl
         clear hs3 hG3 hg3 hb3 hg4 hb4))
    obtain ⟨V, hV⟩ : ∃ V, V = W4.drew := ⟨_, rfl⟩
    have hgV : Chg Non W4 V := by rw [hV]; exact (Chg.refl Non W4).drew
    have HG5 := Lib.hid ((HG3.out.then_non HG4.out).then_non hgV)
    have HSo4 := Lib.hid ((HSo.out.non HG4.out).non hgV)
    have HT4 := Lib.hid (blk_keep HT.out hgV (fun e => e))
    have HSt4 := Lib.hid (blk_keep HSt.out hgV (fun e => e))
    obtain ⟨bl, ol, vs, rfl, _, _, hcell, va, vc, rfl, hst0⟩ := HR.out V HG5.out r s0 HS0.out
    have HC0 := Lib.hid hcell
    have HSt0 := Lib.hid hst0
    have hr4 := HRr.out.2.1
    have hq1 := HRr.out.2.2
    have hu8 := u8_small r hr4
    have hi8 : IntKind.i64.wrap (r : Int) = (r : Int) := IntWalk.i64_in _ ⟨by omega, by omega⟩
    have hrq : r < q := by have := HRr.out; omega
    clear hgV hcell hst0 HG3 HB3 HSo HG4 cf HT HSt hbt hzt hzs hgo
    have HS : Hid (Chg Non V V) := Lib.hid (Chg.refl _ _)
    refine wp_region_held_drew (S := Chg Non V) (by kernel_rfl) (by rw [hV]; exact Chg.refl _ _) (fun hHeld => ?_)
    clear hHeld
    rw [← hV]
    clear hV
    refine hp 0 98 (.int .i64 (q : Int)) rfl HS.out ?_
    refine hp 1 99 (.slice (some ⟨bl, ol, none⟩) q c) rfl HS.out ?_
    refine hp 2 100 (.int .i64 (q : Int)) rfl HS.out ?_
    refine hp 3 101 (.bool true) rfl HS.out ?_
    refine hp 4 102 (.bool true) rfl HS.out ?_
    refine h_load 5 (some 103) 28 (.tmp 13) bt 0 (tagA (tagI r)) _ rfl (by kernel_rfl) (by kernel_rfl) (by kernel_rfl) (by kernel_rfl) (by kernel_rfl) (fun _ _ _ h => h) (by kernel_rfl) (by kernel_rfl) (fun W hW => range_keepS (blk_range HT4.out) hW (fun e => e)) Tryz.underlying28 rfl (by rw [tagA_size (tagI r) (tagN_len _)]; exact info_tag) HS.out ?_
    try simp only [Act.put, sA, sB, sC]
    refine hp 6 104 (.int .i64 (q : Int)) rfl HS.out ?_
    refine hp 7 105 (.int .i64 (r : Int)) rfl HS.out ?_
    refine hp 8 106 (.int .u8 (r : Int)) rfl HS.out ?_
    refine hp 9 107 (.agg (tagA (tagI r))) rfl HS.out ?_ (he := fun W hW => by rw [tagI_A r hr4]; kernel_rfl)
    refine hp 10 108 (.bool true) rfl HS.out ?_ (he := fun W hW => tagI_eq r hr4 W)
    refine hp 11 109 (.bool true) rfl HS.out ?_
    refine hp 12 110 (.bool true) rfl HS.out ?_
    refine h_load 13 (some 111) 25 (.tmp 14) (bt + 1) 0 #[.int .i64 s0.frames, .slice T1 s0.parts.length t1, .slice T2 s0.queues.length t2] _ rfl (by kernel_rfl) (by kernel_rfl) (by kernel_rfl) (by kernel_rfl) (by kernel_rfl) (fun _ _ _ h => h) (by kernel_rfl) (by kernel_rfl) (fun W hW => range_keepS (blk_range HSt4.out) hW (fun e => e)) Tryz.underlying25 rfl info_st HS.out ?_
    try simp only [Act.put, sA, sB, sC]
    refine hp 14 112 (.slice (some ⟨bl, ol, none⟩) q c) rfl HS.out ?_
    refine hp 15 113 (.int .i64 (q : Int)) rfl HS.out ?_
    refine hp 16 114 (.int .i64 (r : Int)) rfl HS.out ?_
    refine hp 17 115 (.pointer (some ⟨bl, ol + r * 3, none⟩)) rfl HS.out ?_
    refine h_load 18 (some 116) 25 (.tmp 115) bl (ol + r * 3) #[.int .i64 s0.frames, va, vc] _ rfl (by kernel_rfl) (by kernel_rfl) (by kernel_rfl) (by kernel_rfl) (by kernel_rfl) (fun _ _ _ h => h) (by kernel_rfl) (by kernel_rfl) (fun W hW => range_keepS HC0.out hW (fun e => e)) Tryz.underlying25 rfl info_st HS.out ?_
    try simp only [Act.put, sA, sB, sC]
    refine h_one 19 (by kernel_rfl) rfl (by kernel_rfl) ?_
    intro K hK
    go_simp
    refine (r21_eq _ I s0 _ _ _ _ V HSo4.out HSt0.out).mono ?_
    rintro e u7 ⟨rfl, hg⟩
    have HS2 := Lib.hid hg
    refine hK.out _ _ HS2.out (fun _ => ?_)
    clear hK K hg
    try simp only [Act.put, sA, sB, sC]
    refine hp 20 118 (.bool true) rfl HS2.out ?_
    refine hp 21 8 (.bool true) rfl HS2.out ?_
    refine wpAnyH_done (by kernel_rfl) ?_ _
    have HGa := Lib.hid (HG5.out.then_non HS2.out)
    clear HG5 HS HS2 HSo4 HSt0 HC0 HT4 HSt4
    go_wp2_with fail
    go_ret
    exact ⟨rfl, HGa.out⟩
  case neg =>
   have hatd : decide (m > 98) = true := by rw [decide_eq_true_eq]; omega
   obtain ⟨k1, k2, k3, k4⟩ := one_yes HW.out (by rw [HQ.out]; exact hq4) HMs.out.1 HMs.out.2 (show 99 ≤ m by omega) (y := y) (by have := HM.out; omega)
   rw [hql] at k1 k2 k3 k4
   rw [k1]
   obtain ⟨F, hF⟩ : ∃ F, (kPutR { D with left := m, stay := y } ((q : Int) + 1) (tagN 99) s).1 = F := ⟨_, rfl⟩
   rw [hF] at k2 k3 k4 HD3
   have HK := Lib.hid (And.intro k2 (And.intro k3 k4))
   clear k1 k2 k3 k4 hF hql hat
   go_wp2_with fail
   refine (Up_ok pd ps pm F _ HD3.out).mono ?_
   rintro e u ⟨rfl, rfl⟩
   rw [HK.out.1]
   go_wp2_with fail
   refine (Get_in pd ps pm F v2 HD3.out (by show 0 < _; rw [HK.out.2.1]; omega)).mono ?_
   rintro e u3 ⟨hf, hg⟩
   obtain ⟨vs1, vs2, rfl, hso⟩ := getF_some (D := F) HK.out.1 (by show 322 < _; rw [HK.out.2.1]; omega) HK.out.2.2 hf
   obtain ⟨T1, t1, rfl, _, _, _⟩ := hso.ps.rd
   obtain ⟨T2, t2, rfl, _, _, _⟩ := hso.qs.rd
   have HSo := Lib.hid hso.staV
   have HG3 := Lib.hid (HG5.out.then_non hg)
   have HB3 := Lib.hid (blk_keep HB5.out hg (fun e => e))
   clear hf hg hso HD3 HG5 HB5
   obtain ⟨bt, hbt⟩ : ∃ b, u3.heap.size = b := ⟨_, rfl⟩
   have hzt : ∀ o o2, ((u3.alloc o).alloc o2).heap[bt]? = some o := fun o o2 => by rw [← hbt]; exact heap_alloc2_old _ _ _
   have hzs : ∀ o o2, ((u3.alloc o).alloc o2).heap[bt + 1]? = some o2 := fun o o2 => by rw [← hbt]; exact heap_alloc2_new _ _ _
   have hgo : ∀ o o2, Chg Non u3 ((u3.alloc o).alloc o2) := fun o o2 => ((Chg.refl Non u3).alloc o).alloc o2
   go_wp2_with (first
     | (refine sel none (.store 28 (.tmp 13) (.tmp 62)) ?_
        refine wpList_store_rowA rfl 28 (.tmp 13) (.tmp 62) rfl bt (tagA (tagN 99)) rfl rfl 28 _ (hzt _ _) (by rw [tagA_size _ (by kernel_rfl)]; exact info_tag) rfl (tagA_one _) ?_
        intro W3 hg3 hb3
        have hs3 := blk_keep (hzs (.cells (tagA zTag) 28) (.cells zStC 25)) hg3 (fun e => by have e : bt + 1 = bt := e; omega)
        have hG3 := (hgo (.cells (tagA zTag) 28) (.cells zStC 25)).then_new hg3 (fun x e => by have e : x = bt := e; omega))
     | (refine sel none (.store 25 (.tmp 14) (.tmp 63)) ?_
        refine wpList_store_rowA rfl 25 (.tmp 14) (.tmp 63) rfl (bt + 1) #[.int .i64 s.frames, .slice T1 s.parts.length t1, .slice T2 s.queues.length t2] rfl rfl 25 _ hs3 info_st rfl (by kernel_rfl) ?_
        intro W4 hg4 hb4
        have HT := Lib.hid (blk_keep hb3 hg4 (fun e => by have e : bt = bt + 1 := e; omega))
        have HSt := Lib.hid hb4
        have HG4 := Lib.hid (hG3.then_new hg4 (fun x e => by have e : x = bt + 1 := e; omega))
        have cf := blk_cell hb4 0 (v := .int .i64 s.frames) rfl
        clear hs3 hG3 hg3 hb3 hg4 hb4)
     | (refine sel (some 90) (.load 28 (.tmp 13)) ?_; refine wpList_loadW (some 90) 28 (.tmp 13) bt 0 (tagA (tagN 99)) _ rfl rfl (by kernel_rfl) rfl (blk_range HT.out) Tryz.underlying28 rfl (by rw [tagA_size _ (by kernel_rfl)]; exact info_tag) ?_)
     | (refine sel (some 91) (.build 28 _) ?_; refine wpList_pureW (some 91) (.agg (tagA (tagN 99))) rfl (by kernel_rfl) (by kernel_rfl) ?_)
     | (refine sel (some 92) (.binOp .eql 28 (.tmp 90) (.tmp 91) 28) ?_; refine wpList_pureW (some 92) (.bool true) rfl (by kernel_rfl) (by kernel_rfl) ?_)
     | (refine sel (some 94) (.load 25 (.tmp 14)) ?_; refine wpList_loadW (some 94) 25 (.tmp 14) (bt + 1) 0 #[.int .i64 s.frames, .slice T1 s.parts.length t1, .slice T2 s.queues.length t2] _ rfl rfl (by kernel_rfl) rfl (blk_range HSt.out) Tryz.underlying25 rfl info_st ?_)
     | (refine sel (some 95) (.load 25 (.tmp 5)) ?_; refine wpList_loadW (some 95) 25 (.tmp 5) b5 0 #[.int .i64 s.frames, .slice S1 s.parts.length s1, .slice S2 s.queues.length s2] _ rfl rfl (by kernel_rfl) rfl (blk_range (blk_keep HB3.out HG4.out (fun e => e))) Tryz.underlying25 rfl info_st ?_))
   have HG5 := Lib.hid (HG3.out.then_non HG4.out)
   have HSo4 := Lib.hid (HSo.out.non HG4.out)
   clear HG3 HB3 HSo HG4 cf HT HSt hbt hzt hzs hgo
   refine (r21_eq _ I s _ _ _ _ _ HSo4.out (HVs.out.non HG5.out)).mono ?_
   rintro e u7 ⟨rfl, hg⟩
   have HGa := Lib.hid (HG5.out.then_non hg)
   clear hg HG5 HSo4
   go_wp2_with fail
   go_ret
   exact ⟨rfl, HGa.out⟩
end Go.Proofs.YtkgnlobabknkcaaGreat
