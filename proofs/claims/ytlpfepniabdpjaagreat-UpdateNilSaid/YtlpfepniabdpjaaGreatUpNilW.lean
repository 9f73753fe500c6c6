/- UpdateNil: the walk. -/
import Derived.Test.YtlpfepniabdpjaaGreatUpNil4
namespace Go.Proofs.YtlpfepniabdpjaaGreat
open Go.RowKit
set_option linter.unusedVariables false

theorem fold_set (L : List Value) (j : Nat) (C : Array Value) (i : Nat) :
    (List.foldl (fun (cs : Array Value) (x : Value × Nat) => cs.setIfInBounds x.2 x.1) C (L.zipIdx j))[i]? = if j ≤ i ∧ i < j + L.length ∧ i < C.size then L[i - j]? else C[i]? := by
  induction L generalizing j C with
  | nil => simp; omega
  | cons v r ih =>
    rw [List.zipIdx_cons, List.foldl_cons, ih]
    simp only [Array.size_setIfInBounds, List.length_cons]
    by_cases h1 : j + 1 ≤ i ∧ i < j + 1 + r.length ∧ i < C.size
    · rw [if_pos h1, if_pos (by omega), show i - j = (i - (j + 1)) + 1 by omega, List.getElem?_cons_succ]
    · rw [if_neg h1, Array.getElem?_setIfInBounds]
      by_cases h2 : j = i
      · subst h2
        by_cases h3 : j < C.size
        · rw [if_pos rfl, if_pos h3, if_pos (by omega), Nat.sub_self]; rfl
        · rw [if_pos rfl, if_neg h3, if_neg (by omega), Array.getElem?_eq_none (by omega)]
      · rw [if_neg h2, if_neg (by omega)]
theorem fold_act (C X : Array Value) (h0 : C.size = 109) (h : X.size = 109) : Array.foldl (fun (cs : Array Value) (x : Value × Nat) => cs.setIfInBounds x.2 x.1) C X.zipIdx 0 109 = X := by
  have e : 109 = X.zipIdx.size := by simp [h]
  rw [e, ← Array.foldl_toList, Array.toList_zipIdx]
  apply Array.ext_getElem?
  intro i
  have := fold_set X.toList 0 C i
  simp only [Nat.zero_add] at this
  rw [this, h0, Array.length_toList, h]
  by_cases hi : i < 109
  · rw [if_pos ⟨by omega, hi, hi⟩, Array.getElem?_toList]; rfl
  · rw [if_neg (by omega), Array.getElem?_eq_none (by omega), Array.getElem?_eq_none (by omega)]
theorem info_act : (Tryz.prog.info? 35).map (·.size) = some 109 := by kernel_rfl

set_option maxRecDepth 100000 in
set_option maxHeartbeats 4000000 in
theorem upNil_walk (s : Int) (K : Option Addr) (nK cK : Nat) (C M R : Array Value) (aB aW aP aC : Option Addr) (nB cB nW cW nP cP nC cC : Nat) (w : World) (hC109 : C.size = 109) (hC3 : C[3]? = some (.slice aB nB cB))
    (hM69 : M.size = 69) (hM : (C.toList.drop 4).take 69 = M.toList) (hR36 : R.size = 36) (hR : (C.toList.drop 73).take 36 = R.toList) (h1 : M[34]? = some (.slice aW nW cW)) (h2 : M[35]? = some (.slice aP nP cP)) (h3 : M[36]? = some (.slice aC nC cC))
    (hP : PartsOk w aP nP) (hn : nP ≤ 9223372036854775807) (hnB : nB ≤ 9223372036854775807) :
    Calls Tryz.prog 3 #[.int .i64 s, .slice K nK cK, .agg C] w fun e w' => e = .returned (.bool true) ∧ Chg Non w w' := by
  have HGr := Lib.hid (fun W bL (hg : Chg Non w W) (hL : W.heap[bL]? = some (.cells C 35 (0, 0))) => great_ok bL C M aB aW aP aC nB cB nW cW nP cP nC cC W hL hC3 hM69 hM h1 h2 h3 (hP.non hg) hn hnB)
  have HM := Lib.hid hM
  have HR := Lib.hid hR
  have HCz := Lib.hid hC109
  have HC3a := Lib.hid hC3
  clear hP h1 h2 h3 hM hR hC3
  have hnq := neq_urecZ
  by_cases hk : 100 < nK
  · have hkd : decide (100 < (nK : Int)) = true := by simp; omega
    go_enter Tryz.func3, Tryz.ntmps3
    go_wp2_with fail
    go_ret
    exact ⟨rfl, (Chg.refl Non w).alloc _⟩
  have hkd : decide (100 < (nK : Int)) = false := by simp; omega
  go_enter Tryz.func3, Tryz.ntmps3
  go_wp2_with (first
      | (refine sel (some 26) (.load 35 (.tmp 5)) ?_
         refine wpList_loadW (some 26) 35 (.tmp 5) w.heap.size 0 C _ rfl rfl (by kernel_rfl) (by kernel_rfl) (row_range (heap_alloc_new _ _)) Tryz.underlying35 rfl (by rw [HCz.out]; exact info_act) ?_)
    )
  rw [fold_act _ C rfl HCz.out]
  refine (HGr.out _ (w.heap.size + 1) (((Chg.refl Non w).alloc _).alloc _) (heap_alloc2_new _ _ _)).mono ?_
  rintro e U1 ⟨⟨g, rfl⟩, hg⟩
  have hGU := (((Chg.refl Non w).alloc _).alloc _).then_non hg
  have HX := Lib.hid (blockN hg (heap_alloc2_old w (.cells C 35) (.cells C 35)))
  have HGU := Lib.hid hGU
  clear hg hGU
  cases g with
  | true =>
    go_wp2_with fail
    go_ret
    exact ⟨rfl, HGU.out⟩
  | false =>
  go_wp2_with fail
  obtain ⟨U, hU⟩ : ∃ U, (U1.alloc (.cells #[.pointer none, .int .i64 0, .int .i64 0] 41)).alloc (.cells #[.pointer none, .pointer (some ⟨U1.heap.size, 0, none⟩)] 38) = U := ⟨_, rfl⟩
  have hg1U : Chg Non U1 U := by rw [← hU]; exact ((Chg.refl Non U1).alloc _).alloc _
  have HA0 : Hid (U.cell? ⟨U1.heap.size + 1, 0, none⟩ = some (.pointer none)) := Lib.hid (by subst hU; go_simp)
  have HA1 : Hid (U.cell? ⟨U1.heap.size + 1, 1, none⟩ = some (.pointer (some ⟨U1.heap.size, 0, none⟩))) := Lib.hid (by subst hU; go_simp)
  have HD1 : Hid (U.cell? ⟨U1.heap.size, 0, none⟩ = some (.pointer none)) := Lib.hid (by subst hU; go_simp)
  have HXU := Lib.hid (blockN hg1U HX.out)
  have HWU := Lib.hid (HGU.out.then_non hg1U)
  have HP0 : Hid (∀ V, Chg Non U V → NoSt V none) := Lib.hid (fun _ _ => trivial)
  have HP1 : Hid (∀ V, Chg Non U V → NoSt V (some ⟨U1.heap.size, 0, none⟩)) := Lib.hid (fun V hV => ⟨rfl, hV.cell_some HD1.out (fun e => e)⟩)
  have HRM := Lib.hid (row_mid HXU.out 4 69 _ HM.out)
  have HRR := Lib.hid (row_mid HXU.out 73 36 _ HR.out)
  have HC3 := Lib.hid (row_cell HXU.out HC3a.out)
  have HR0 := Lib.hid (Chg.refl Non U)
  rw [hU]
  clear hU hg1U
  refine wp_loop_rounds 3 ?_
  rw [rounds_succ]
  have kc := HR0.out.cell_some HA0.out (fun e => e)
  go_wp2_with (first
      | (refine sel (some 48) (.load 31 (.tmp 47)) ?_
         refine wpList_loadW (some 48) 31 (.tmp 47) w.heap.size 4 M _ rfl rfl (by kernel_rfl) (by kernel_rfl) (rangeN HR0.out HRM.out) Tryz.underlying31 rfl (by rw [hM69]; exact info_man) ?_)
      | (go_at_call 5
         refine (sVerify none K nK cK M _ (HP0.out _ HR0.out)).mono ?_
         rintro e u10 ⟨rfl, hg⟩
         have HU10 := Lib.hid (HR0.out.then_non hg)
         clear hg kc)
      | (refine sel none (.store 31 (.tmp 11) (.tmp 50)) ?_
         refine wpList_store_rowA rfl 31 (.tmp 11) (.tmp 50) rfl u10.heap.size manZ rfl rfl 31 _ (heap_alloc_new _ _) (by rw [manZ_size]; exact info_man) (by rw [manZ_size]; kernel_rfl) manZ_one ?_
         intro v10 hg1 hb1
         have HB110 := Lib.hid hb1
         have HV10 := Lib.hid (HU10.out.then_non (((Chg.refl Non u10).alloc _).then_new hg1 (fun x e => by omega)))
         clear hg1 hb1)
      | (refine sel (some 56) (.load 31 (.tmp 55)) ?_
         refine wpList_loadW (some 56) 31 (.tmp 55) w.heap.size 4 M _ rfl rfl (by kernel_rfl) (by kernel_rfl) (rangeN HV10.out HRM.out) Tryz.underlying31 rfl (by rw [hM69]; exact info_man) ?_)
      | (refine sel (some 58) (.load 33 (.tmp 57)) ?_
         refine wpList_loadW (some 58) 33 (.tmp 57) w.heap.size 73 R _ rfl rfl (by kernel_rfl) (by kernel_rfl) (rangeN HV10.out HRR.out) Tryz.underlying33 rfl (by rw [hR36]; exact info_urec) ?_)
      | (go_at_call 6
         refine (sCommit none K nK cK M R _ (HP0.out _ HV10.out)).mono ?_
         rintro e u20 ⟨rfl, hg⟩
         have HU20 := Lib.hid (HV10.out.then_non hg)
         have HB11b0 := Lib.hid (blockN hg HB110.out)
         clear hg)
      | (refine sel none (.store 31 (.tmp 13) (.tmp 60)) ?_
         refine wpList_store_rowA rfl 31 (.tmp 13) (.tmp 60) rfl u20.heap.size manZ rfl rfl 31 _ (heap_alloc2_old _ _ _) (by rw [manZ_size]; exact info_man) (by rw [manZ_size]; kernel_rfl) manZ_one ?_
         intro v20 hg1 hb1
         have HB130 := Lib.hid hb1
         have HZ140 := Lib.hid ((hg1.block (u20.heap.size + 1) (by simp) (by omega)).trans (heap_alloc2_new _ _ _))
         have HV20 := Lib.hid ((((Chg.refl Non u20).alloc _).alloc _).then_new hg1 (fun x e => by omega))
         clear hg1 hb1)
      | (refine sel none (.store 33 (.tmp 14) (.tmp 61)) ?_
         refine wpList_store_rowA rfl 33 (.tmp 14) (.tmp 61) rfl (u20.heap.size + 1) urecZ rfl rfl 33 _ HZ140.out (by rw [urecZ_size]; exact info_urec) (by rw [urecZ_size]; kernel_rfl) urecZ_one ?_
         intro v30 hg1 hb1
         have HB140 := Lib.hid hb1
         have HB13b0 := Lib.hid ((hg1.block u20.heap.size (Array.getElem?_eq_some_iff.1 HB130.out).1 (by omega)).trans HB130.out)
         have hgn : Chg Non u20 v30 := HV20.out.then_new hg1 (fun x e => by omega)
         have HB11c0 := Lib.hid (blockN hgn HB11b0.out)
         have HV30 := Lib.hid (HU20.out.then_non hgn)
         have kb := (HU20.out.then_non hgn).cell_some HC3.out (fun e => e)
         clear hg1 hb1 hgn)
      | (go_at_call 7
         refine (sStage none aB nB cB _ (HP0.out _ HV30.out)).mono ?_
         rintro e ux ⟨rfl, rfl⟩)
      | (go_at_call 8
         refine (sAbort none _ (HP0.out _ HV30.out)).mono ?_
         rintro e ux ⟨rfl, rfl⟩)
      | (go_at_call 9
         refine (sLen none _ (HP0.out _ HV30.out)).mono ?_
         rintro e ux ⟨rfl, rfl⟩)
      | (go_at_call 10
         refine (sSlot none _ (HP0.out _ HV30.out)).mono ?_
         rintro e ux ⟨rfl, rfl⟩)
      | (refine sel (some 95) (.load 33 (.tmp 14)) ?_
         refine wpList_loadW (some 95) 33 (.tmp 14) (u20.heap.size + 1) 0 urecZ _ rfl rfl (by kernel_rfl) (by kernel_rfl) (row_range HB140.out) Tryz.underlying33 rfl (by rw [urecZ_size]; exact info_urec) ?_)
      | (refine sel (some 96) (.build 33 #[]) ?_
         refine wpList_pureW (some 96) (.agg urecZ) rfl (by kernel_rfl) (by kernel_rfl) ?_)
      | (refine sel (some 100) (.load 31 (.tmp 11)) ?_
         refine wpList_loadW (some 100) 31 (.tmp 11) u10.heap.size 0 manZ _ rfl rfl (by kernel_rfl) (by kernel_rfl) (row_range HB11c0.out) Tryz.underlying31 rfl (by rw [manZ_size]; exact info_man) ?_)
      | (refine sel (some 101) (.build 31 #[]) ?_
         refine wpList_pureW (some 101) (.agg manZ) rfl (by kernel_rfl) (by kernel_rfl) ?_)
      | (go_at_call 11
         refine (same14 _).mono ?_
         rintro e u30 ⟨rfl, hg⟩
         have HB11d0 := Lib.hid (blockN hg HB11c0.out)
         have HB13d0 := Lib.hid (blockN hg HB13b0.out)
         have HU30 := Lib.hid (HV30.out.then_non hg)
         clear hg HB11c0)
      | (go_at_call 11
         refine (same14 _).mono ?_
         rintro e ux0 ⟨rfl, hg⟩
         have HSx0 := Lib.hid (HU30.out.then_non hg)
         clear hg)
      | (refine sel (some 106) (.load 31 (.tmp 13)) ?_
         refine wpList_loadW (some 106) 31 (.tmp 13) u20.heap.size 0 manZ _ rfl rfl (by kernel_rfl) (by kernel_rfl) (row_range HB13d0.out) Tryz.underlying31 rfl (by rw [manZ_size]; exact info_man) ?_)
      | (refine sel (some 107) (.load 31 (.tmp 11)) ?_
         refine wpList_loadW (some 107) 31 (.tmp 11) u10.heap.size 0 manZ _ rfl rfl (by kernel_rfl) (by kernel_rfl) (row_range HB11d0.out) Tryz.underlying31 rfl (by rw [manZ_size]; exact info_man) ?_))
  rw [rounds_succ]
  have kc := HSx0.out.cell_some HA1.out (fun e => e)
  go_wp2_with (first
      | (refine sel (some 48) (.load 31 (.tmp 47)) ?_
         refine wpList_loadW (some 48) 31 (.tmp 47) w.heap.size 4 M _ rfl rfl (by kernel_rfl) (by kernel_rfl) (rangeN HSx0.out HRM.out) Tryz.underlying31 rfl (by rw [hM69]; exact info_man) ?_)
      | (go_at_call 5
         refine (sVerify (some ⟨U1.heap.size, 0, none⟩) K nK cK M _ (HP1.out _ HSx0.out)).mono ?_
         rintro e u11 ⟨rfl, hg⟩
         have HU11 := Lib.hid (HSx0.out.then_non hg)
         clear hg kc)
      | (refine sel none (.store 31 (.tmp 11) (.tmp 50)) ?_
         refine wpList_store_rowA rfl 31 (.tmp 11) (.tmp 50) rfl u11.heap.size manZ rfl rfl 31 _ (heap_alloc_new _ _) (by rw [manZ_size]; exact info_man) (by rw [manZ_size]; kernel_rfl) manZ_one ?_
         intro v11 hg1 hb1
         have HB111 := Lib.hid hb1
         have HV11 := Lib.hid (HU11.out.then_non (((Chg.refl Non u11).alloc _).then_new hg1 (fun x e => by omega)))
         clear hg1 hb1)
      | (refine sel (some 56) (.load 31 (.tmp 55)) ?_
         refine wpList_loadW (some 56) 31 (.tmp 55) w.heap.size 4 M _ rfl rfl (by kernel_rfl) (by kernel_rfl) (rangeN HV11.out HRM.out) Tryz.underlying31 rfl (by rw [hM69]; exact info_man) ?_)
      | (refine sel (some 58) (.load 33 (.tmp 57)) ?_
         refine wpList_loadW (some 58) 33 (.tmp 57) w.heap.size 73 R _ rfl rfl (by kernel_rfl) (by kernel_rfl) (rangeN HV11.out HRR.out) Tryz.underlying33 rfl (by rw [hR36]; exact info_urec) ?_)
      | (go_at_call 6
         refine (sCommit (some ⟨U1.heap.size, 0, none⟩) K nK cK M R _ (HP1.out _ HV11.out)).mono ?_
         rintro e u21 ⟨rfl, hg⟩
         have HU21 := Lib.hid (HV11.out.then_non hg)
         have HB11b1 := Lib.hid (blockN hg HB111.out)
         clear hg)
      | (refine sel none (.store 31 (.tmp 13) (.tmp 60)) ?_
         refine wpList_store_rowA rfl 31 (.tmp 13) (.tmp 60) rfl u21.heap.size manZ rfl rfl 31 _ (heap_alloc2_old _ _ _) (by rw [manZ_size]; exact info_man) (by rw [manZ_size]; kernel_rfl) manZ_one ?_
         intro v21 hg1 hb1
         have HB131 := Lib.hid hb1
         have HZ141 := Lib.hid ((hg1.block (u21.heap.size + 1) (by simp) (by omega)).trans (heap_alloc2_new _ _ _))
         have HV21 := Lib.hid ((((Chg.refl Non u21).alloc _).alloc _).then_new hg1 (fun x e => by omega))
         clear hg1 hb1)
      | (refine sel none (.store 33 (.tmp 14) (.tmp 61)) ?_
         refine wpList_store_rowA rfl 33 (.tmp 14) (.tmp 61) rfl (u21.heap.size + 1) urecZ rfl rfl 33 _ HZ141.out (by rw [urecZ_size]; exact info_urec) (by rw [urecZ_size]; kernel_rfl) urecZ_one ?_
         intro v31 hg1 hb1
         have HB141 := Lib.hid hb1
         have HB13b1 := Lib.hid ((hg1.block u21.heap.size (Array.getElem?_eq_some_iff.1 HB131.out).1 (by omega)).trans HB131.out)
         have hgn : Chg Non u21 v31 := HV21.out.then_new hg1 (fun x e => by omega)
         have HB11c1 := Lib.hid (blockN hgn HB11b1.out)
         have HV31 := Lib.hid (HU21.out.then_non hgn)
         have kb := (HU21.out.then_non hgn).cell_some HC3.out (fun e => e)
         clear hg1 hb1 hgn)
      | (go_at_call 7
         refine (sStage (some ⟨U1.heap.size, 0, none⟩) aB nB cB _ (HP1.out _ HV31.out)).mono ?_
         rintro e ux ⟨rfl, rfl⟩)
      | (go_at_call 8
         refine (sAbort (some ⟨U1.heap.size, 0, none⟩) _ (HP1.out _ HV31.out)).mono ?_
         rintro e ux ⟨rfl, rfl⟩)
      | (go_at_call 9
         refine (sLen (some ⟨U1.heap.size, 0, none⟩) _ (HP1.out _ HV31.out)).mono ?_
         rintro e ux ⟨rfl, rfl⟩)
      | (go_at_call 10
         refine (sSlot (some ⟨U1.heap.size, 0, none⟩) _ (HP1.out _ HV31.out)).mono ?_
         rintro e ux ⟨rfl, rfl⟩)
      | (refine sel (some 95) (.load 33 (.tmp 14)) ?_
         refine wpList_loadW (some 95) 33 (.tmp 14) (u21.heap.size + 1) 0 urecZ _ rfl rfl (by kernel_rfl) (by kernel_rfl) (row_range HB141.out) Tryz.underlying33 rfl (by rw [urecZ_size]; exact info_urec) ?_)
      | (refine sel (some 96) (.build 33 #[]) ?_
         refine wpList_pureW (some 96) (.agg urecZ) rfl (by kernel_rfl) (by kernel_rfl) ?_)
      | (refine sel (some 100) (.load 31 (.tmp 11)) ?_
         refine wpList_loadW (some 100) 31 (.tmp 11) u11.heap.size 0 manZ _ rfl rfl (by kernel_rfl) (by kernel_rfl) (row_range HB11c1.out) Tryz.underlying31 rfl (by rw [manZ_size]; exact info_man) ?_)
      | (refine sel (some 101) (.build 31 #[]) ?_
         refine wpList_pureW (some 101) (.agg manZ) rfl (by kernel_rfl) (by kernel_rfl) ?_)
      | (go_at_call 11
         refine (same14 _).mono ?_
         rintro e u31 ⟨rfl, hg⟩
         have HB11d1 := Lib.hid (blockN hg HB11c1.out)
         have HB13d1 := Lib.hid (blockN hg HB13b1.out)
         have HU31 := Lib.hid (HV31.out.then_non hg)
         clear hg HB11c1)
      | (go_at_call 11
         refine (same14 _).mono ?_
         rintro e ux1 ⟨rfl, hg⟩
         have HSx1 := Lib.hid (HU31.out.then_non hg)
         clear hg)
      | (refine sel (some 106) (.load 31 (.tmp 13)) ?_
         refine wpList_loadW (some 106) 31 (.tmp 13) u21.heap.size 0 manZ _ rfl rfl (by kernel_rfl) (by kernel_rfl) (row_range HB13d1.out) Tryz.underlying31 rfl (by rw [manZ_size]; exact info_man) ?_)
      | (refine sel (some 107) (.load 31 (.tmp 11)) ?_
         refine wpList_loadW (some 107) 31 (.tmp 11) u11.heap.size 0 manZ _ rfl rfl (by kernel_rfl) (by kernel_rfl) (row_range HB11d1.out) Tryz.underlying31 rfl (by rw [manZ_size]; exact info_man) ?_))
  rw [rounds_succ]
  go_wp2_with fail
  refine (uNewN s _).mono ?_
  rintro e W1 ⟨rfl, rfl⟩
  go_wp2_with fail
  refine (dNew5 _).mono ?_
  rintro e W2 ⟨pd, rfl, hF, hg⟩
  have HF := Lib.hid hF
  have HW2 := Lib.hid (HWU.out.then_non (HSx1.out.then_non hg))
  clear hF hg
  by_cases hbad : s < 0 ∨ 1 < s
  · have HN := Lib.hid (uNewBad s pd W2 HF.out hbad)
    go_wp2_with fail
    refine HN.out.mono ?_
    rintro e W3 ⟨rfl, rfl⟩
    by_cases h0 : s < 0
    · have hd : decide (s < 0) = true := by simpa using h0
      go_wp2_with fail
      go_ret
      exact ⟨rfl, HW2.out⟩
    · have hd : decide (s < 0) = false := by simpa using h0
      have hd2 : decide (1 < s) = true := by simp; omega
      go_wp2_with fail
      go_ret
      exact ⟨rfl, HW2.out⟩
  · have HN := Lib.hid (uNewOk s pd W2 HF.out (by omega) (by omega))
    have hd : decide (s < 0) = false := by simp; omega
    have hd2 : decide (1 < s) = false := by simp; omega
    go_wp2_with fail
    refine HN.out.mono ?_
    rintro e W3 ⟨b, rfl, hb0, hb1, hg⟩
    have HSl := Lib.hid (sSlot2 b pd s W3 hb0 hb1)
    have HW3 := Lib.hid (HW2.out.then_non hg)
    clear hb0 hb1 hg
    go_wp2_with fail
    refine HSl.out.mono ?_
    rintro e W4 ⟨rfl, rfl⟩
    go_wp2_with fail
    go_ret
    exact ⟨rfl, HW3.out⟩
end Go.Proofs.YtlpfepniabdpjaaGreat
