/- The law CommitNil: a disk that nobody made has no records. Holds for every record; no condition. -/
import Derived.Test.YthhbdejagglgbaaGreatRecG
import Derived.Test.YthhbdejagglgbaaGreatHeld
namespace Go.Proofs.YthhbdejagglgbaaGreat
open Go.RowKit
set_option linter.unusedVariables false

theorem range_block {w : World} {b : Nat} {C : Array Value} {t : TypeId} {fr : Nat × Nat} (h : w.heap[b]? = some (.cells C t fr)) : w.rangeAt b 0 C.toList := fun j v hv => by
  rw [cell_of_row _ _ _ _ _ _ h, Nat.zero_add]
  simpa using hv

set_option maxRecDepth 100000 in
set_option maxHeartbeats 2000000 in
theorem cPut_no (p : Option Addr) (X : Array Value) (w : World) (hp : ∀ W, Chg Non w W → NoDisk W p) :
    Calls Tryz.prog 10 #[.pointer p, .agg X] w fun e w' => e = .returned (.int .i64 1) ∧ Chg Non w w' := by
  have HL := Lib.hid (fun W h => Len_no p W (hp W h))
  clear hp
  go_enter Tryz.func10, Tryz.ntmps10
  go_wp2_with fail
  refine (HL.out _ ((Chg.refl Non w).alloc _)).mono ?_
  rintro e w' ⟨rfl, rfl⟩
  go_wp2
  go_ret
  exact ⟨rfl, (Chg.refl Non w).alloc _⟩

theorem neq_recZ (w : World) : (binOp .neq 25 (.agg recZ) (.agg recZ)).run Tryz.prog w = .ok (.bool false) w := by kernel_rfl

theorem noDisk_keep {w W : World} {b o : Nat} (h : NoDisk w (some ⟨b, o, none⟩)) (hg : Chg Non w W) : NoDisk W (some ⟨b, o, none⟩) := ⟨rfl, hg.cell_some h.2 (fun e => e)⟩

set_option maxRecDepth 100000 in
set_option maxHeartbeats 4000000 in
theorem commitNil_walk (r : Rec) (hh : r.hash.length = 32) (w : World) :
    Calls Tryz.prog 3 #[.agg (recA r)] w fun e w' => e = .returned (.bool true) ∧ Chg Non w w' := by
  have HXS := Lib.hid (recA_size r hh)
  obtain ⟨X, hX⟩ : ∃ X, recA r = X := ⟨_, rfl⟩
  rw [hX] at HXS ⊢
  clear hX hh
  have hnq := neq_recZ
  go_enter Tryz.func3, Tryz.ntmps3
  go_wp2_with fail
  obtain ⟨U, hU⟩ : ∃ U, ((w.alloc (.cells X 25)).alloc (.cells #[.bool false, .slice none 0 0, .map none, .int .i64 0, .slice none 0 0] 31)).alloc
      (.cells #[.pointer none, .pointer (some ⟨w.heap.size + 1, 0, none⟩)] 26) = U := ⟨_, rfl⟩
  have hGU : Chg Non w U := by rw [← hU]; exact (((Chg.refl Non w).alloc _).alloc _).alloc _
  have HX0 : Hid (U.heap[w.heap.size]? = some (.cells X 25 (0, 0))) := Lib.hid (by rw [← hU, Below.heap_alloc _ _ _ (by simp; omega)]; exact heap_alloc2_old _ _ _)
  have HA0 : Hid (U.cell? ⟨w.heap.size + 1 + 1, 0, none⟩ = some (.pointer none)) := Lib.hid (by subst hU; go_simp)
  have HA1 : Hid (U.cell? ⟨w.heap.size + 1 + 1, 1, none⟩ = some (.pointer (some ⟨w.heap.size + 1, 0, none⟩))) := Lib.hid (by subst hU; go_simp)
  have HD1 : Hid (U.cell? ⟨w.heap.size + 1, 2, none⟩ = some (.map none)) := Lib.hid (by subst hU; go_simp)
  have hszX : w.heap.size < U.heap.size := (Array.getElem?_eq_some_iff.1 HX0.out).1
  have hp0 : ∀ V, Chg Non U V → NoDisk V none := fun _ _ => trivial
  have hp1 : ∀ V, Chg Non U V → NoDisk V (some ⟨w.heap.size + 1, 0, none⟩) := fun V hV => ⟨rfl, hV.cell_some HD1.out (fun e => e)⟩
  rw [hU]
  clear hU
  refine wp_loop_rounds 3 ?_
  rw [rounds_succ]
  have kc := (Chg.refl Non U).cell_some HA0.out (fun e => e)
  go_wp2_with fail
  clear kc
  refine (cGet_no _ _ (fun V hV => hp0 V ((Chg.refl Non U).then_non hV))).mono ?_
  rintro e w1 ⟨rfl, hgw1⟩
  have HGw1 := Lib.hid ((Chg.refl Non U).then_non hgw1)
  clear hgw1
  go_wp2_with (first
    | (refine sel none (.store 25 (.tmp 6) (.tmp 25)) ?_
       refine wpList_store_rowA rfl 25 (.tmp 6) (.tmp 25) rfl w1.heap.size recZ rfl rfl 25 _ (heap_alloc2_old _ _ _) (by rw [recZ_size]; exact info_rec) rfl recZ_one ?_
       intro V1 hgV1 hbV1
       have HB7 := Lib.hid (show V1.heap[w1.heap.size + 1]? = some (.cells recZ 25 (0, 0)) from (hgV1.block _ (by simp) (by omega)).trans (heap_alloc2_new _ _ _))
       have HBV1 := Lib.hid hbV1
       have HGV1 := Lib.hid (HGw1.out.then_non ((((Chg.refl Non w1).alloc _).alloc _).then_new hgV1 (fun x e => by omega)))
       have hsz1 : w1.heap.size + 1 < V1.heap.size := (Array.getElem?_eq_some_iff.1 HB7.out).1
       clear hgV1 hbV1)
    | (refine sel none (.store 25 (.tmp 7) (.tmp 26)) ?_
       refine wpList_store_rowA rfl 25 (.tmp 7) (.tmp 26) rfl (w1.heap.size + 1) recZ rfl rfl 25 _ HB7.out (by rw [recZ_size]; exact info_rec) rfl recZ_one ?_
       intro V2 hgV2 hbV2
       have HT := Lib.hid (show Two w1.heap.size (w1.heap.size + 1) recZ recZ V2.drew from ⟨(hgV2.block _ (by omega) (by omega)).trans HBV1.out, hbV2⟩)
       have hsw : U.heap.size ≤ w1.heap.size := HGw1.out.size
       have HW := Lib.hid ((HGV1.out.then_new hgV2 (fun x e => by omega)).drew)
       clear hgV2 hbV2))
  have HX := Lib.hid ((HW.out.block _ hszX (fun e => e)).trans HX0.out)
  have HK0 := Lib.hid (HW.out.cell_some HA0.out (fun e => e))
  have HK1 := Lib.hid (HW.out.cell_some HA1.out (fun e => e))
  refine wp_region_held_drew (S := Chg Non V2.drew) (by kernel_rfl) (Chg.refl _ _) (fun _ => ?_)
  refine h_pure 0 (some 28) (.int .i64 1) rfl (by kernel_rfl) (by kernel_rfl) (by kernel_rfl) (by kernel_rfl) (fun _ _ _ h => h) (by kernel_rfl) (fun w e => by go_simp) (Chg.refl _ _) ?_
  simp only [Act.put, List.setIfInBounds_toArray, List.set_cons_zero, List.set_cons_succ]
  refine h_pure 1 (some 29) (.bool false) rfl (by kernel_rfl) (by kernel_rfl) (by kernel_rfl) (by kernel_rfl) (fun _ _ _ h => h) (by kernel_rfl) (fun w e => by go_simp) (Chg.refl _ _) ?_
  simp only [Act.put, List.setIfInBounds_toArray, List.set_cons_zero, List.set_cons_succ]
  refine h_pure 2 (some 30) (.bool false) rfl (by kernel_rfl) (by kernel_rfl) (by kernel_rfl) (by kernel_rfl) (fun _ _ _ h => h) (by kernel_rfl) (fun w e => by go_simp) (Chg.refl _ _) ?_
  simp only [Act.put, List.setIfInBounds_toArray, List.set_cons_zero, List.set_cons_succ]
  refine h_pure 3 (some 31) (.slice (some ⟨w.heap.size + 1 + 1, 0, none⟩) 2 2) rfl (by kernel_rfl) (by kernel_rfl) (by kernel_rfl) (by kernel_rfl) (fun _ _ _ h => h) (by kernel_rfl) (fun w e => by go_simp) (Chg.refl _ _) ?_
  simp only [Act.put, List.setIfInBounds_toArray, List.set_cons_zero, List.set_cons_succ]
  refine h_pure 4 (some 32) (.int .i64 0) rfl (by kernel_rfl) (by kernel_rfl) (by kernel_rfl) (by kernel_rfl) (fun _ _ _ h => h) (by kernel_rfl) (fun w e => by go_simp) (Chg.refl _ _) ?_
  simp only [Act.put, List.setIfInBounds_toArray, List.set_cons_zero, List.set_cons_succ]
  refine h_pure 5 (some 33) (.pointer (some ⟨w.heap.size + 1 + 1, 0, none⟩)) rfl (by kernel_rfl) (by kernel_rfl) (by kernel_rfl) (by kernel_rfl) (fun _ _ _ h => h) (by kernel_rfl) (fun w e => by go_simp) (Chg.refl _ _) ?_
  simp only [Act.put, List.setIfInBounds_toArray, List.set_cons_zero, List.set_cons_succ]
  refine h_pure 6 (some 34) (.pointer none) rfl (by kernel_rfl) (by kernel_rfl) (by kernel_rfl) (by kernel_rfl) (fun _ _ _ h => h) (by kernel_rfl) (fun w e => by have k := e.cell_some HK0.out (fun e => e); go_simp) (Chg.refl _ _) ?_
  simp only [Act.put, List.setIfInBounds_toArray, List.set_cons_zero, List.set_cons_succ]
  refine h_load 7 (some 35) 25 (.tmp 1) w.heap.size 0 X _ rfl (by kernel_rfl) (by kernel_rfl) (by kernel_rfl) (by kernel_rfl) (by kernel_rfl) (fun _ _ _ h => h) (by kernel_rfl) (by kernel_rfl) (fun w h => range_block ((h.block _ (Array.getElem?_eq_some_iff.1 HX.out).1 (fun e => e)).trans HX.out)) Tryz.underlying25 rfl (by rw [HXS.out]; exact info_rec) (Chg.refl _ _) ?_
  simp only [Act.put, List.setIfInBounds_toArray, List.set_cons_zero, List.set_cons_succ]
  refine h_pure 9 (some 37) (.int .i64 1) rfl (by kernel_rfl) (by kernel_rfl) (by kernel_rfl) (by kernel_rfl) (fun _ _ _ h => h) (by kernel_rfl) (fun w e => by go_simp) (Chg.refl _ _) ?_
  simp only [Act.put, List.setIfInBounds_toArray, List.set_cons_zero, List.set_cons_succ]
  refine h_one 8 (by kernel_rfl) rfl (by kernel_rfl) ?_
  intro K hK
  go_simp
  go_at_call 10
  refine (cPut_no _ _ _ (fun V hV => hp0 V (HW.out.then_non hV))).mono ?_
  rintro e w50 ⟨rfl, hg5⟩
  refine hK.out _ _ hg5 (fun _ => ?_)
  clear hK K
  refine h_pure 10 (some 38) (.bool false) rfl (by kernel_rfl) (by kernel_rfl) (by kernel_rfl) (by kernel_rfl) (fun _ _ _ h => h) (by kernel_rfl) (fun w e => by go_simp) hg5 ?_
  simp only [Act.put, List.setIfInBounds_toArray, List.set_cons_zero, List.set_cons_succ]
  refine h_pure 11 (some 39) (.bool false) rfl (by kernel_rfl) (by kernel_rfl) (by kernel_rfl) (by kernel_rfl) (fun _ _ _ h => h) (by kernel_rfl) (fun w e => by go_simp) hg5 ?_
  simp only [Act.put, List.setIfInBounds_toArray, List.set_cons_zero, List.set_cons_succ]
  refine h_pure 12 (some 40) (.bool false) rfl (by kernel_rfl) (by kernel_rfl) (by kernel_rfl) (by kernel_rfl) (fun _ _ _ h => h) (by kernel_rfl) (fun w e => by go_simp) hg5 ?_
  simp only [Act.put, List.setIfInBounds_toArray, List.set_cons_zero, List.set_cons_succ]
  refine h_load 13 (some 41) 25 (.tmp 6) w1.heap.size 0 recZ _ rfl (by kernel_rfl) (by kernel_rfl) (by kernel_rfl) (by kernel_rfl) (by kernel_rfl) (fun _ _ _ h => h) (by kernel_rfl) (by kernel_rfl) (fun w h => (HT.out.non h).left) Tryz.underlying25 rfl (by rw [recZ_size]; exact info_rec) hg5 ?_
  simp only [Act.put, List.setIfInBounds_toArray, List.set_cons_zero, List.set_cons_succ]
  refine h_pure 14 (some 42) (.agg recZ) rfl (by kernel_rfl) (by kernel_rfl) (by kernel_rfl) (by kernel_rfl) (fun _ _ _ h => h) (by kernel_rfl) (fun w e => by kernel_rfl) hg5 ?_
  simp only [Act.put, List.setIfInBounds_toArray, List.set_cons_zero, List.set_cons_succ]
  refine h_pure 15 (some 43) (.bool false) rfl (by kernel_rfl) (by kernel_rfl) (by kernel_rfl) (by kernel_rfl) (fun _ _ _ h => h) (by kernel_rfl) (fun w e => by go_simp) hg5 ?_
  simp only [Act.put, List.setIfInBounds_toArray, List.set_cons_zero, List.set_cons_succ]
  refine h_pure 16 (some 44) (.bool false) rfl (by kernel_rfl) (by kernel_rfl) (by kernel_rfl) (by kernel_rfl) (fun _ _ _ h => h) (by kernel_rfl) (fun w e => by go_simp) hg5 ?_
  simp only [Act.put, List.setIfInBounds_toArray, List.set_cons_zero, List.set_cons_succ]
  refine h_pure 17 (some 45) (.bool false) rfl (by kernel_rfl) (by kernel_rfl) (by kernel_rfl) (by kernel_rfl) (fun _ _ _ h => h) (by kernel_rfl) (fun w e => by go_simp) hg5 ?_
  simp only [Act.put, List.setIfInBounds_toArray, List.set_cons_zero, List.set_cons_succ]
  refine h_load 18 (some 46) 25 (.tmp 7) (w1.heap.size + 1) 0 recZ _ rfl (by kernel_rfl) (by kernel_rfl) (by kernel_rfl) (by kernel_rfl) (by kernel_rfl) (fun _ _ _ h => h) (by kernel_rfl) (by kernel_rfl) (fun w h => (HT.out.non h).right) Tryz.underlying25 rfl (by rw [recZ_size]; exact info_rec) hg5 ?_
  simp only [Act.put, List.setIfInBounds_toArray, List.set_cons_zero, List.set_cons_succ]
  refine h_load 19 (some 47) 25 (.tmp 6) w1.heap.size 0 recZ _ rfl (by kernel_rfl) (by kernel_rfl) (by kernel_rfl) (by kernel_rfl) (by kernel_rfl) (fun _ _ _ h => h) (by kernel_rfl) (by kernel_rfl) (fun w h => (HT.out.non h).left) Tryz.underlying25 rfl (by rw [recZ_size]; exact info_rec) hg5 ?_
  simp only [Act.put, List.setIfInBounds_toArray, List.set_cons_zero, List.set_cons_succ]
  refine h_pure 20 (some 48) (.bool false) rfl (by kernel_rfl) (by kernel_rfl) (by kernel_rfl) (by kernel_rfl) (fun _ _ _ h => h) (by kernel_rfl) (fun w e => by go_simp) hg5 ?_
  simp only [Act.put, List.setIfInBounds_toArray, List.set_cons_zero, List.set_cons_succ]
  refine h_pure 21 (some 49) (.bool false) rfl (by kernel_rfl) (by kernel_rfl) (by kernel_rfl) (by kernel_rfl) (fun _ _ _ h => h) (by kernel_rfl) (fun w e => by go_simp) hg5 ?_
  simp only [Act.put, List.setIfInBounds_toArray, List.set_cons_zero, List.set_cons_succ]
  refine wpAnyH_done (by kernel_rfl) ?_ _
  have HN0 := Lib.hid (HW.out.then_non hg5)
  clear hg5
  go_wp2_with fail
  rw [rounds_succ]
  have kc := HN0.out.cell_some HA1.out (fun e => e)
  go_wp2_with fail
  clear kc
  refine (cGet_no _ _ (fun V hV => hp1 V (HN0.out.then_non hV))).mono ?_
  rintro e w2 ⟨rfl, hgw2⟩
  have HGw2 := Lib.hid (HN0.out.then_non hgw2)
  clear hgw2
  go_wp2_with (first
    | (refine sel none (.store 25 (.tmp 6) (.tmp 25)) ?_
       refine wpList_store_rowA rfl 25 (.tmp 6) (.tmp 25) rfl w2.heap.size recZ rfl rfl 25 _ (heap_alloc2_old _ _ _) (by rw [recZ_size]; exact info_rec) rfl recZ_one ?_
       intro V1 hgV1 hbV1
       have HB7 := Lib.hid (show V1.heap[w2.heap.size + 1]? = some (.cells recZ 25 (0, 0)) from (hgV1.block _ (by simp) (by omega)).trans (heap_alloc2_new _ _ _))
       have HBV1 := Lib.hid hbV1
       have HGV1 := Lib.hid (HGw2.out.then_non ((((Chg.refl Non w2).alloc _).alloc _).then_new hgV1 (fun x e => by omega)))
       have hsz1 : w2.heap.size + 1 < V1.heap.size := (Array.getElem?_eq_some_iff.1 HB7.out).1
       clear hgV1 hbV1)
    | (refine sel none (.store 25 (.tmp 7) (.tmp 26)) ?_
       refine wpList_store_rowA rfl 25 (.tmp 7) (.tmp 26) rfl (w2.heap.size + 1) recZ rfl rfl 25 _ HB7.out (by rw [recZ_size]; exact info_rec) rfl recZ_one ?_
       intro V2 hgV2 hbV2
       have HT := Lib.hid (show Two w2.heap.size (w2.heap.size + 1) recZ recZ V2.drew from ⟨(hgV2.block _ (by omega) (by omega)).trans HBV1.out, hbV2⟩)
       have hsw : U.heap.size ≤ w2.heap.size := HGw2.out.size
       have HW := Lib.hid ((HGV1.out.then_new hgV2 (fun x e => by omega)).drew)
       clear hgV2 hbV2))
  have HX := Lib.hid ((HW.out.block _ hszX (fun e => e)).trans HX0.out)
  have HK0 := Lib.hid (HW.out.cell_some HA0.out (fun e => e))
  have HK1 := Lib.hid (HW.out.cell_some HA1.out (fun e => e))
  refine wp_region_held_drew (S := Chg Non V2.drew) (by kernel_rfl) (Chg.refl _ _) (fun _ => ?_)
  refine h_pure 0 (some 28) (.int .i64 1) rfl (by kernel_rfl) (by kernel_rfl) (by kernel_rfl) (by kernel_rfl) (fun _ _ _ h => h) (by kernel_rfl) (fun w e => by go_simp) (Chg.refl _ _) ?_
  simp only [Act.put, List.setIfInBounds_toArray, List.set_cons_zero, List.set_cons_succ]
  refine h_pure 1 (some 29) (.bool false) rfl (by kernel_rfl) (by kernel_rfl) (by kernel_rfl) (by kernel_rfl) (fun _ _ _ h => h) (by kernel_rfl) (fun w e => by go_simp) (Chg.refl _ _) ?_
  simp only [Act.put, List.setIfInBounds_toArray, List.set_cons_zero, List.set_cons_succ]
  refine h_pure 2 (some 30) (.bool false) rfl (by kernel_rfl) (by kernel_rfl) (by kernel_rfl) (by kernel_rfl) (fun _ _ _ h => h) (by kernel_rfl) (fun w e => by go_simp) (Chg.refl _ _) ?_
  simp only [Act.put, List.setIfInBounds_toArray, List.set_cons_zero, List.set_cons_succ]
  refine h_pure 3 (some 31) (.slice (some ⟨w.heap.size + 1 + 1, 0, none⟩) 2 2) rfl (by kernel_rfl) (by kernel_rfl) (by kernel_rfl) (by kernel_rfl) (fun _ _ _ h => h) (by kernel_rfl) (fun w e => by go_simp) (Chg.refl _ _) ?_
  simp only [Act.put, List.setIfInBounds_toArray, List.set_cons_zero, List.set_cons_succ]
  refine h_pure 4 (some 32) (.int .i64 1) rfl (by kernel_rfl) (by kernel_rfl) (by kernel_rfl) (by kernel_rfl) (fun _ _ _ h => h) (by kernel_rfl) (fun w e => by go_simp) (Chg.refl _ _) ?_
  simp only [Act.put, List.setIfInBounds_toArray, List.set_cons_zero, List.set_cons_succ]
  refine h_pure 5 (some 33) (.pointer (some ⟨w.heap.size + 1 + 1, 1, none⟩)) rfl (by kernel_rfl) (by kernel_rfl) (by kernel_rfl) (by kernel_rfl) (fun _ _ _ h => h) (by kernel_rfl) (fun w e => by go_simp) (Chg.refl _ _) ?_
  simp only [Act.put, List.setIfInBounds_toArray, List.set_cons_zero, List.set_cons_succ]
  refine h_pure 6 (some 34) (.pointer (some ⟨w.heap.size + 1, 0, none⟩)) rfl (by kernel_rfl) (by kernel_rfl) (by kernel_rfl) (by kernel_rfl) (fun _ _ _ h => h) (by kernel_rfl) (fun w e => by have k := e.cell_some HK1.out (fun e => e); go_simp) (Chg.refl _ _) ?_
  simp only [Act.put, List.setIfInBounds_toArray, List.set_cons_zero, List.set_cons_succ]
  refine h_load 7 (some 35) 25 (.tmp 1) w.heap.size 0 X _ rfl (by kernel_rfl) (by kernel_rfl) (by kernel_rfl) (by kernel_rfl) (by kernel_rfl) (fun _ _ _ h => h) (by kernel_rfl) (by kernel_rfl) (fun w h => range_block ((h.block _ (Array.getElem?_eq_some_iff.1 HX.out).1 (fun e => e)).trans HX.out)) Tryz.underlying25 rfl (by rw [HXS.out]; exact info_rec) (Chg.refl _ _) ?_
  simp only [Act.put, List.setIfInBounds_toArray, List.set_cons_zero, List.set_cons_succ]
  refine h_pure 9 (some 37) (.int .i64 1) rfl (by kernel_rfl) (by kernel_rfl) (by kernel_rfl) (by kernel_rfl) (fun _ _ _ h => h) (by kernel_rfl) (fun w e => by go_simp) (Chg.refl _ _) ?_
  simp only [Act.put, List.setIfInBounds_toArray, List.set_cons_zero, List.set_cons_succ]
  refine h_one 8 (by kernel_rfl) rfl (by kernel_rfl) ?_
  intro K hK
  go_simp
  go_at_call 10
  refine (cPut_no _ _ _ (fun V hV => hp1 V (HW.out.then_non hV))).mono ?_
  rintro e w51 ⟨rfl, hg5⟩
  refine hK.out _ _ hg5 (fun _ => ?_)
  clear hK K
  refine h_pure 10 (some 38) (.bool false) rfl (by kernel_rfl) (by kernel_rfl) (by kernel_rfl) (by kernel_rfl) (fun _ _ _ h => h) (by kernel_rfl) (fun w e => by go_simp) hg5 ?_
  simp only [Act.put, List.setIfInBounds_toArray, List.set_cons_zero, List.set_cons_succ]
  refine h_pure 11 (some 39) (.bool false) rfl (by kernel_rfl) (by kernel_rfl) (by kernel_rfl) (by kernel_rfl) (fun _ _ _ h => h) (by kernel_rfl) (fun w e => by go_simp) hg5 ?_
  simp only [Act.put, List.setIfInBounds_toArray, List.set_cons_zero, List.set_cons_succ]
  refine h_pure 12 (some 40) (.bool false) rfl (by kernel_rfl) (by kernel_rfl) (by kernel_rfl) (by kernel_rfl) (fun _ _ _ h => h) (by kernel_rfl) (fun w e => by go_simp) hg5 ?_
  simp only [Act.put, List.setIfInBounds_toArray, List.set_cons_zero, List.set_cons_succ]
  refine h_load 13 (some 41) 25 (.tmp 6) w2.heap.size 0 recZ _ rfl (by kernel_rfl) (by kernel_rfl) (by kernel_rfl) (by kernel_rfl) (by kernel_rfl) (fun _ _ _ h => h) (by kernel_rfl) (by kernel_rfl) (fun w h => (HT.out.non h).left) Tryz.underlying25 rfl (by rw [recZ_size]; exact info_rec) hg5 ?_
  simp only [Act.put, List.setIfInBounds_toArray, List.set_cons_zero, List.set_cons_succ]
  refine h_pure 14 (some 42) (.agg recZ) rfl (by kernel_rfl) (by kernel_rfl) (by kernel_rfl) (by kernel_rfl) (fun _ _ _ h => h) (by kernel_rfl) (fun w e => by kernel_rfl) hg5 ?_
  simp only [Act.put, List.setIfInBounds_toArray, List.set_cons_zero, List.set_cons_succ]
  refine h_pure 15 (some 43) (.bool false) rfl (by kernel_rfl) (by kernel_rfl) (by kernel_rfl) (by kernel_rfl) (fun _ _ _ h => h) (by kernel_rfl) (fun w e => by go_simp) hg5 ?_
  simp only [Act.put, List.setIfInBounds_toArray, List.set_cons_zero, List.set_cons_succ]
  refine h_pure 16 (some 44) (.bool false) rfl (by kernel_rfl) (by kernel_rfl) (by kernel_rfl) (by kernel_rfl) (fun _ _ _ h => h) (by kernel_rfl) (fun w e => by go_simp) hg5 ?_
  simp only [Act.put, List.setIfInBounds_toArray, List.set_cons_zero, List.set_cons_succ]
  refine h_pure 17 (some 45) (.bool false) rfl (by kernel_rfl) (by kernel_rfl) (by kernel_rfl) (by kernel_rfl) (fun _ _ _ h => h) (by kernel_rfl) (fun w e => by go_simp) hg5 ?_
  simp only [Act.put, List.setIfInBounds_toArray, List.set_cons_zero, List.set_cons_succ]
  refine h_load 18 (some 46) 25 (.tmp 7) (w2.heap.size + 1) 0 recZ _ rfl (by kernel_rfl) (by kernel_rfl) (by kernel_rfl) (by kernel_rfl) (by kernel_rfl) (fun _ _ _ h => h) (by kernel_rfl) (by kernel_rfl) (fun w h => (HT.out.non h).right) Tryz.underlying25 rfl (by rw [recZ_size]; exact info_rec) hg5 ?_
  simp only [Act.put, List.setIfInBounds_toArray, List.set_cons_zero, List.set_cons_succ]
  refine h_load 19 (some 47) 25 (.tmp 6) w2.heap.size 0 recZ _ rfl (by kernel_rfl) (by kernel_rfl) (by kernel_rfl) (by kernel_rfl) (by kernel_rfl) (fun _ _ _ h => h) (by kernel_rfl) (by kernel_rfl) (fun w h => (HT.out.non h).left) Tryz.underlying25 rfl (by rw [recZ_size]; exact info_rec) hg5 ?_
  simp only [Act.put, List.setIfInBounds_toArray, List.set_cons_zero, List.set_cons_succ]
  refine h_pure 20 (some 48) (.bool false) rfl (by kernel_rfl) (by kernel_rfl) (by kernel_rfl) (by kernel_rfl) (fun _ _ _ h => h) (by kernel_rfl) (fun w e => by go_simp) hg5 ?_
  simp only [Act.put, List.setIfInBounds_toArray, List.set_cons_zero, List.set_cons_succ]
  refine h_pure 21 (some 49) (.bool false) rfl (by kernel_rfl) (by kernel_rfl) (by kernel_rfl) (by kernel_rfl) (fun _ _ _ h => h) (by kernel_rfl) (fun w e => by go_simp) hg5 ?_
  simp only [Act.put, List.setIfInBounds_toArray, List.set_cons_zero, List.set_cons_succ]
  refine wpAnyH_done (by kernel_rfl) ?_ _
  have HN1 := Lib.hid (HW.out.then_non hg5)
  clear hg5
  go_wp2_with fail
  rw [rounds_succ]
  go_wp2
  go_ret
  exact ⟨rfl, hGU.then_non HN1.out⟩
end Go.Proofs.YthhbdejagglgbaaGreat
