/- SystemNil: the walk. -/
import Derived.Test.YtlpfepniabdpjabGreatSysNil2
namespace Go.Proofs.YtlpfepniabdpjabGreat
open Go.RowKit
set_option linter.unusedVariables false

theorem fold_set (L : List Value) (j : Nat) (C : Array Value) (i : Nat) :
    (List.foldl (fun (cs : Array Value) (x : Value × Nat) => cs.setIfInBounds x.2 x.1) C (L.zipIdx j))[i]? = if j ≤ i ∧ i < j + L.length ∧ i < C.size then L[i - j]? else C[i]? := by
  induction L generalizing j C with
  | nil => simp; omega
  | cons v r ih =>
    rw [List.zipIdx_cons, List.foldl_cons, ih]
    simp only [Array.size_setIfInBounds, List.length_cons]
    by_cases h1 : j + 1 ≤ i ∧ i < j + 1 + r.length ∧ i < C.size
    · rw [if_pos h1, if_pos (by omega), show i - j = (i - (j + 1)) + 1 by omega, List.getElem?_cons_succ]
    · rw [if_neg h1, Array.getElem?_setIfInBounds]
      by_cases h2 : j = i
      · subst h2
        by_cases h3 : j < C.size
        · rw [if_pos rfl, if_pos h3, if_pos (by omega), Nat.sub_self]; rfl
        · rw [if_pos rfl, if_neg h3, if_neg (by omega), Array.getElem?_eq_none (by omega)]
      · rw [if_neg h2, if_neg (by omega)]
theorem fold_ev (C X : Array Value) (h0 : C.size = 4) (h : X.size = 4) : Array.foldl (fun (cs : Array Value) (x : Value × Nat) => cs.setIfInBounds x.2 x.1) C X.zipIdx 0 4 = X := by
  have e : 4 = X.zipIdx.size := by simp [h]
  rw [e, ← Array.foldl_toList, Array.toList_zipIdx]
  apply Array.ext_getElem?
  intro i
  have := fold_set X.toList 0 C i
  simp only [Nat.zero_add] at this
  rw [this, h0, Array.length_toList, h]
  by_cases hi : i < 4
  · rw [if_pos ⟨by omega, hi, hi⟩, Array.getElem?_toList]; rfl
  · rw [if_neg (by omega), Array.getElem?_eq_none (by omega), Array.getElem?_eq_none (by omega)]
theorem info_ev : (Tryz.prog.info? 24).map (·.size) = some 4 := by kernel_rfl
theorem manZ_0 : manZ[0]? = some (.int .i64 0) := by kernel_rfl
theorem sysZ_1 : Tryz.zeroCells49[1]? = some (.pointer none) := by kernel_rfl

set_option maxRecDepth 100000 in
set_option maxHeartbeats 4000000 in
theorem sysNil_walk (E : Array Value) (kd pt n id : Int) (aB : Option Addr) (nB cB : Nat) (w : World) (hE4 : E.size = 4) (h0 : E[0]? = some (.int .u8 kd)) (h2 : E[2]? = some (.int .i64 n)) (h3 : E[3]? = some (.slice aB nB cB)) :
    Calls Tryz.prog 3 #[.agg E, .int .i64 id] w fun e w' => e = .returned (.bool true) ∧ Chg Non w w' := by
  have HGr := Lib.hid (fun W bL (hL : W.heap[bL]? = some (.cells E 24 (0, 0))) => great1 bL kd pt n aB nB cB W (row_cell hL h0) (row_cell hL h2) (row_cell hL h3))
  have HE4 := Lib.hid hE4
  clear h0 h2 h3
  go_enter Tryz.func3, Tryz.ntmps3
  go_wp2_with (first
      | (refine sel (some 13) (.build 34 #[]) ?_
         refine wpList_pureW (some 13) (.agg manZ) rfl (by kernel_rfl) (by kernel_rfl) ?_)
      | (refine sel (some 14) (.load 24 (.tmp 2)) ?_
         refine wpList_loadW (some 14) 24 (.tmp 2) w.heap.size 0 E _ rfl rfl (by kernel_rfl) (by kernel_rfl) (row_range (heap_alloc_new _ _)) Tryz.underlying24 rfl (by rw [hE4]; exact info_ev) ?_))
  rw [fold_ev _ E rfl HE4.out]
  refine (HGr.out _ (w.heap.size + 1) (heap_alloc2_new _ _ _)).mono ?_
  rintro e U1 ⟨⟨g, rfl⟩, hg⟩
  have hGU := (((Chg.refl Non w).alloc _).alloc _).then_non hg
  have HX := Lib.hid (blockN hg (heap_alloc2_old w (.cells E 24) (.cells E 24)))
  have HGU := Lib.hid hGU
  clear hg hGU
  cases g with
  | true =>
    go_wp2_with fail
    go_ret
    exact ⟨rfl, HGU.out⟩
  | false =>
  go_wp2_with fail
  obtain ⟨U, hU⟩ : ∃ U, (U1.alloc (.cells Tryz.zeroCells49 49)).alloc (.cells #[.pointer none, .pointer (some ⟨U1.heap.size, 0, none⟩)] 36) = U := ⟨_, rfl⟩
  have hg1U : Chg Non U1 U := by rw [← hU]; exact ((Chg.refl Non U1).alloc _).alloc _
  have HA0 : Hid (U.cell? ⟨U1.heap.size + 1, 0, none⟩ = some (.pointer none)) := Lib.hid (by rw [← hU]; exact row_cell (heap_alloc2_new _ _ _) rfl)
  have HA1 : Hid (U.cell? ⟨U1.heap.size + 1, 1, none⟩ = some (.pointer (some ⟨U1.heap.size, 0, none⟩))) := Lib.hid (by rw [← hU]; exact row_cell (heap_alloc2_new _ _ _) rfl)
  have HD1 : Hid (U.cell? ⟨U1.heap.size, 1, none⟩ = some (.pointer none)) := Lib.hid (by rw [← hU]; exact row_cell (heap_alloc2_old _ _ _) sysZ_1)
  have HXU := Lib.hid (blockN hg1U HX.out)
  have HWU := Lib.hid (HGU.out.then_non hg1U)
  have HP0 : Hid (∀ V, Chg Non U V → NoSys V none) := Lib.hid (fun _ _ => trivial)
  have HP1 : Hid (∀ V, Chg Non U V → NoSys V (some ⟨U1.heap.size, 0, none⟩)) := Lib.hid (fun V hV => ⟨rfl, hV.cell_some HD1.out (fun e => e)⟩)
  have HRE := Lib.hid (row_range HXU.out)
  have HR0 := Lib.hid (Chg.refl Non U)
  rw [hU]
  clear hU hg1U
  refine wp_loop_rounds 3 ?_
  rw [rounds_succ]
  have kc := HR0.out.cell_some HA0.out (fun e => e)
  go_wp2_with (first
      | (go_at_call 5
         refine (yRunning none _ (HP0.out _ HR0.out)).mono ?_
         rintro e u10 ⟨rfl, hg⟩
         have HU10 := Lib.hid (HR0.out.then_non hg)
         clear hg kc)
      | (refine sel none (.store 34 (.tmp 9) (.tmp 34)) ?_
         refine wpList_store_rowA rfl 34 (.tmp 9) (.tmp 34) rfl u10.heap.size manZ rfl rfl 34 _ (heap_alloc_new _ _) (by rw [manZ_size]; exact info_man) (by rw [manZ_size]; kernel_rfl) manZ_one ?_
         intro v10 hg1 hb1
         have HB90 := Lib.hid hb1
         have HV10 := Lib.hid (HU10.out.then_non (((Chg.refl Non u10).alloc _).then_new hg1 (fun x e => by omega)))
         clear hg1 hb1)
      | (go_at_call 6
         refine (yLook none id _ (HP0.out _ HV10.out)).mono ?_
         rintro e u20 ⟨rfl, hg⟩
         have HU20 := Lib.hid (HV10.out.then_non hg)
         have HB9b0 := Lib.hid (blockN hg HB90.out)
         clear hg)
      | (refine sel none (.store 56 (.tmp 11) (.tmp 40)) ?_
         refine wpList_store_rowA rfl 56 (.tmp 11) (.tmp 40) rfl u20.heap.size partZ rfl rfl 56 _ (heap_alloc_new _ _) (by rw [partZ_size]; exact info_part) (by rw [partZ_size]; kernel_rfl) partZ_one ?_
         intro v20 hg1 hb1
         have hgn := ((Chg.refl Non u20).alloc (.cells _ 56)).then_new hg1 (fun x e => by omega)
         have HB9c0 := Lib.hid (blockN hgn HB9b0.out)
         have HV20 := Lib.hid (HU20.out.then_non hgn)
         clear hg1 hb1 hgn)
      | (refine sel (some 43) (.load 24 (.tmp 2)) ?_
         refine wpList_loadW (some 43) 24 (.tmp 2) w.heap.size 0 E _ rfl rfl (by kernel_rfl) (by kernel_rfl) (rangeN HV20.out HRE.out) Tryz.underlying24 rfl (by rw [hE4]; exact info_ev) ?_)
      | (go_at_call 7
         refine (yDo none E _ (HP0.out _ HV20.out)).mono ?_
         rintro e u30 ⟨rfl, hg⟩
         have HU30 := Lib.hid (HV20.out.then_non hg)
         have kb := row_cell (blockN hg HB9c0.out) manZ_0
         clear hg)
      | (go_at_call 8
         refine (yUp none _ (HP0.out _ HU30.out)).mono ?_
         rintro e ux ⟨rfl, rfl⟩)
      | (go_at_call 9
         refine (lphase none _ (HP0.out _ HU30.out)).mono ?_
         rintro e u40 ⟨rfl, hg⟩
         have HU40 := Lib.hid (HU30.out.then_non hg)
         clear hg kb)
      | (refine sel (some 62) (.build 63 #[]) ?_
         refine wpList_pureW (some 62) (.agg phZ2) rfl (by kernel_rfl) (by kernel_rfl) ?_)
      | (refine sel (some 63) (.binOp .neq 63 (.tmp 61) (.tmp 62) 63) ?_
         refine wpList_pureW (some 63) (.bool false) rfl (by kernel_rfl) (by kernel_rfl) ?_)
      | (go_at_call 10
         refine (yState none _ (HP0.out _ HU40.out)).mono ?_
         rintro e u50 ⟨rfl, hg⟩
         have HU50 := Lib.hid (HU40.out.then_non hg)
         clear hg)
      | (refine sel (some 68) (.field 68 (.tmp 67) 1) ?_
         refine wpList_pureW (some 68) (.slice none 0 0) rfl (by kernel_rfl) (by kernel_rfl) ?_)
      | (go_at_call 11
         refine (yAt none _ (HP0.out _ HU50.out)).mono ?_
         rintro e ux ⟨rfl, rfl⟩)
      | (go_at_call 12
         refine (yStaged none _ (HP0.out _ HU50.out)).mono ?_
         rintro e ux ⟨rfl, rfl⟩)
      | (go_at_call 13
         refine (yPhys none _ (HP0.out _ HU50.out)).mono ?_
         rintro e ux ⟨rfl, rfl⟩))
  rw [rounds_succ]
  have kc := HU50.out.cell_some HA1.out (fun e => e)
  go_wp2_with (first
      | (go_at_call 5
         refine (yRunning (some ⟨U1.heap.size, 0, none⟩) _ (HP1.out _ HU50.out)).mono ?_
         rintro e u11 ⟨rfl, hg⟩
         have HU11 := Lib.hid (HU50.out.then_non hg)
         clear hg kc)
      | (refine sel none (.store 34 (.tmp 9) (.tmp 34)) ?_
         refine wpList_store_rowA rfl 34 (.tmp 9) (.tmp 34) rfl u11.heap.size manZ rfl rfl 34 _ (heap_alloc_new _ _) (by rw [manZ_size]; exact info_man) (by rw [manZ_size]; kernel_rfl) manZ_one ?_
         intro v11 hg1 hb1
         have HB91 := Lib.hid hb1
         have HV11 := Lib.hid (HU11.out.then_non (((Chg.refl Non u11).alloc _).then_new hg1 (fun x e => by omega)))
         clear hg1 hb1)
      | (go_at_call 6
         refine (yLook (some ⟨U1.heap.size, 0, none⟩) id _ (HP1.out _ HV11.out)).mono ?_
         rintro e u21 ⟨rfl, hg⟩
         have HU21 := Lib.hid (HV11.out.then_non hg)
         have HB9b1 := Lib.hid (blockN hg HB91.out)
         clear hg)
      | (refine sel none (.store 56 (.tmp 11) (.tmp 40)) ?_
         refine wpList_store_rowA rfl 56 (.tmp 11) (.tmp 40) rfl u21.heap.size partZ rfl rfl 56 _ (heap_alloc_new _ _) (by rw [partZ_size]; exact info_part) (by rw [partZ_size]; kernel_rfl) partZ_one ?_
         intro v21 hg1 hb1
         have hgn := ((Chg.refl Non u21).alloc (.cells _ 56)).then_new hg1 (fun x e => by omega)
         have HB9c1 := Lib.hid (blockN hgn HB9b1.out)
         have HV21 := Lib.hid (HU21.out.then_non hgn)
         clear hg1 hb1 hgn)
      | (refine sel (some 43) (.load 24 (.tmp 2)) ?_
         refine wpList_loadW (some 43) 24 (.tmp 2) w.heap.size 0 E _ rfl rfl (by kernel_rfl) (by kernel_rfl) (rangeN HV21.out HRE.out) Tryz.underlying24 rfl (by rw [hE4]; exact info_ev) ?_)
      | (go_at_call 7
         refine (yDo (some ⟨U1.heap.size, 0, none⟩) E _ (HP1.out _ HV21.out)).mono ?_
         rintro e u31 ⟨rfl, hg⟩
         have HU31 := Lib.hid (HV21.out.then_non hg)
         have kb := row_cell (blockN hg HB9c1.out) manZ_0
         clear hg)
      | (go_at_call 8
         refine (yUp (some ⟨U1.heap.size, 0, none⟩) _ (HP1.out _ HU31.out)).mono ?_
         rintro e ux ⟨rfl, rfl⟩)
      | (go_at_call 9
         refine (lphase (some ⟨U1.heap.size, 0, none⟩) _ (HP1.out _ HU31.out)).mono ?_
         rintro e u41 ⟨rfl, hg⟩
         have HU41 := Lib.hid (HU31.out.then_non hg)
         clear hg kb)
      | (refine sel (some 62) (.build 63 #[]) ?_
         refine wpList_pureW (some 62) (.agg phZ2) rfl (by kernel_rfl) (by kernel_rfl) ?_)
      | (refine sel (some 63) (.binOp .neq 63 (.tmp 61) (.tmp 62) 63) ?_
         refine wpList_pureW (some 63) (.bool false) rfl (by kernel_rfl) (by kernel_rfl) ?_)
      | (go_at_call 10
         refine (yState (some ⟨U1.heap.size, 0, none⟩) _ (HP1.out _ HU41.out)).mono ?_
         rintro e u51 ⟨rfl, hg⟩
         have HU51 := Lib.hid (HU41.out.then_non hg)
         clear hg)
      | (refine sel (some 68) (.field 68 (.tmp 67) 1) ?_
         refine wpList_pureW (some 68) (.slice none 0 0) rfl (by kernel_rfl) (by kernel_rfl) ?_)
      | (go_at_call 11
         refine (yAt (some ⟨U1.heap.size, 0, none⟩) _ (HP1.out _ HU51.out)).mono ?_
         rintro e ux ⟨rfl, rfl⟩)
      | (go_at_call 12
         refine (yStaged (some ⟨U1.heap.size, 0, none⟩) _ (HP1.out _ HU51.out)).mono ?_
         rintro e ux ⟨rfl, rfl⟩)
      | (go_at_call 13
         refine (yPhys (some ⟨U1.heap.size, 0, none⟩) _ (HP1.out _ HU51.out)).mono ?_
         rintro e ux ⟨rfl, rfl⟩))
  rw [rounds_succ]
  go_wp2_with fail
  go_ret
  exact ⟨rfl, HWU.out.then_non HU51.out⟩
end Go.Proofs.YtlpfepniabdpjabGreat
