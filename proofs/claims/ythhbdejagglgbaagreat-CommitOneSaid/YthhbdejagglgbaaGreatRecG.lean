/- Commit records: Get, Put at a disk that nobody made. -/
import Derived.Test.YthhbdejagglgbaaGreatRec
import Derived.Test.YthhbdejagglgbaaGreatAny
import Derived.Test.YthhbdejagglgbaaGreatWnil
namespace Go.Proofs.YthhbdejagglgbaaGreat
open Go.RowKit
set_option linter.unusedVariables false

theorem run_results_cell2_tmp {P : Program} {fn : Func} {p p2 q : Tmp} {ty : TypeId} (h : fn.results = #[.cell p ty, .cell p2 ty, .tmp q]) (tmps : Array Value) (w : World) (g g2 : Nat) (t : TypeId) (cs cs2 : Array Value) (fr fr2 : Nat × Nat) (d : TypeDesc) (v : Value)
    (hp : tmps.getD p undef = .pointer (some ⟨g, 0, none⟩)) (hp2 : tmps.getD p2 undef = .pointer (some ⟨g2, 0, none⟩)) (hv : tmps.getD q undef = v) (hg : w.heap[g]? = some (.cells cs t fr)) (hg2 : w.heap[g2]? = some (.cells cs2 t fr2))
    (hu : P.underlying ty = some d) (hd : (match d with | .struct _ | .array _ _ => true | _ => false) = true) (hi : (P.info? ty).map (·.size) = some cs.size) (hi2 : (P.info? ty).map (·.size) = some cs2.size) :
    (results fn tmps).run P w = .ok (.tuple #[.agg cs, .agg cs2, v]) w := by
  have hp' : tmps[p]?.getD undef = .pointer (some ⟨g, 0, none⟩) := by simpa using hp
  have hp2' : tmps[p2]?.getD undef = .pointer (some ⟨g2, 0, none⟩) := by simpa using hp2
  have hv' : tmps[q]?.getD undef = v := by simpa using hv
  simp [results, h, hp', hp2', hv', asAddr, run_loadVar_row w g t ty cs fr d hg hu hd hi, run_loadVar_row w g2 t ty cs2 fr2 d hg2 hu hd hi2]

/-- two records lie in blocks b, g -/
def Two (b g : Nat) (X Y : Array Value) (w : World) : Prop :=
  w.heap[b]? = some (.cells X 25 (0, 0)) ∧ w.heap[g]? = some (.cells Y 25 (0, 0))
theorem Two.left {b g : Nat} {X Y : Array Value} {w : World} (h : Two b g X Y w) : w.rangeAt b 0 X.toList := fun j v hv => by
  rw [cell_of_row _ _ _ _ _ _ h.1, Nat.zero_add]
  simpa using hv
theorem Two.right {b g : Nat} {X Y : Array Value} {w : World} (h : Two b g X Y w) : w.rangeAt g 0 Y.toList := fun j v hv => by
  rw [cell_of_row _ _ _ _ _ _ h.2, Nat.zero_add]
  simpa using hv
theorem Two.put1 {b g : Nat} {X Y Z : Array Value} {w W : World} (h : Two b g X Y w) (hne : b ≠ g) (hg : Chg (fun k => k = b) w W) (hb : W.heap[b]? = some (.cells Z 25 (0, 0))) : Two b g Z Y W :=
  ⟨hb, (hg.block g (Array.getElem?_eq_some_iff.1 h.2).1 (Ne.symm hne)).trans h.2⟩
theorem Two.put2 {b g : Nat} {X Y Z : Array Value} {w W : World} (h : Two b g X Y w) (hne : b ≠ g) (hg : Chg (fun k => k = g) w W) (hb : W.heap[g]? = some (.cells Z 25 (0, 0))) : Two b g X Z W :=
  ⟨(hg.block b (Array.getElem?_eq_some_iff.1 h.1).1 hne).trans h.1, hb⟩
theorem Two.non {b g : Nat} {X Y : Array Value} {w W : World} (h : Two b g X Y w) (hg : Chg Non w W) : Two b g X Y W :=
  ⟨(hg.block b (Array.getElem?_eq_some_iff.1 h.1).1 (fun e => e)).trans h.1, (hg.block g (Array.getElem?_eq_some_iff.1 h.2).1 (fun e => e)).trans h.2⟩
theorem Two.keep {T : Nat → Prop} {b g : Nat} {X Y : Array Value} {w W : World} (h : Two b g X Y w) (hg : Chg T w W) (h1 : ¬ T b) (h2 : ¬ T g) : Two b g X Y W :=
  ⟨(hg.block b (Array.getElem?_eq_some_iff.1 h.1).1 h1).trans h.1, (hg.block g (Array.getElem?_eq_some_iff.1 h.2).1 h2).trans h.2⟩

set_option maxRecDepth 100000 in
set_option maxHeartbeats 2000000 in
theorem cGet_no (p : Option Addr) (w : World) (hp : ∀ W, Chg Non w W → NoDisk W p) :
    Calls Tryz.prog 9 #[.pointer p] w fun e w' => e = .returned (.tuple #[.agg recZ, .agg recZ, .int .i64 1]) ∧ Chg Non w w' := by
  have HL := Lib.hid (fun W h => Len_no p W (hp W h))
  clear hp
  go_enter Tryz.func9, Tryz.ntmps9
  go_wp2_with fail
  refine (HL.out _ (((Chg.refl Non w).alloc _).alloc _)).mono ?_
  rintro e w' ⟨rfl, rfl⟩
  go_wp2_with fail
  have hT : Two w.heap.size (w.heap.size + 1) recZ recZ ((w.alloc (.cells recZ 25)).alloc (.cells recZ 25)) := ⟨heap_alloc2_old _ _ _, heap_alloc2_new _ _ _⟩
  have hg : Chg Non w ((w.alloc (.cells recZ 25)).alloc (.cells recZ 25)) := ((Chg.refl Non w).alloc _).alloc _
  have HT := Lib.hid hT
  have HG := Lib.hid hg
  clear hT hg
  refine wp_region_any (by kernel_rfl) ?_
  change wpAny _ _ _ _ _ _ _ (World.drew _)
  have hTd : Two w.heap.size (w.heap.size + 1) recZ recZ ((w.alloc (.cells recZ 25)).alloc (.cells recZ 25)).drew := HT.out
  have hne : w.heap.size ≠ w.heap.size + 1 := by omega
  refine g_two 0 1 (by kernel_rfl) ?_ ?_
  · refine g_load (some 14) 25 (.tmp 2) w.heap.size 0 recZ _ rfl (by kernel_rfl) (by kernel_rfl) (by kernel_rfl) (by kernel_rfl) hTd.left Tryz.underlying25 rfl (by rw [recZ_size]; exact info_rec) ?_
    simp only [Act.put, List.setIfInBounds_toArray, List.set_cons_zero, List.set_cons_succ]
    refine g_two 1 2 (by kernel_rfl) ?_ ?_
    · refine g_load (some 15) 25 (.tmp 3) (w.heap.size + 1) 0 recZ _ rfl (by kernel_rfl) (by kernel_rfl) (by kernel_rfl) (by kernel_rfl) hTd.right Tryz.underlying25 rfl (by rw [recZ_size]; exact info_rec) ?_
      simp only [Act.put, List.setIfInBounds_toArray, List.set_cons_zero, List.set_cons_succ]
      refine g_one 2 (by kernel_rfl) ?_
      refine g_store 25 (.tmp 2) (.tmp 14) w.heap.size recZ rfl (by kernel_rfl) (by kernel_rfl) (by kernel_rfl) (by kernel_rfl) (by kernel_rfl) 25 ⟨_, hTd.1, rfl⟩ (by rw [recZ_size]; exact info_rec) recZ_one ?_
      intro W1 hg1 hb1
      have hT1 := hTd.put1 hne hg1 hb1
      refine g_one 3 (by kernel_rfl) ?_
      refine g_store 25 (.tmp 3) (.tmp 15) (w.heap.size + 1) recZ rfl (by kernel_rfl) (by kernel_rfl) (by kernel_rfl) (by kernel_rfl) (by kernel_rfl) 25 ⟨_, hT1.2, rfl⟩ (by rw [recZ_size]; exact info_rec) recZ_one ?_
      intro W2 hg2 hb2
      have hT2 := hT1.put2 hne hg2 hb2
      refine g_one 4 (by kernel_rfl) ?_
      refine g_pure (some 4) (.int .i64 1) rfl (by kernel_rfl) (by kernel_rfl) (by go_simp) ?_
      simp only [Act.put, List.setIfInBounds_toArray, List.set_cons_zero, List.set_cons_succ]
      refine wpAny_done (by kernel_rfl) ?_ _
      go_wp2
      exact bodyPost_ret (run_results_cell2_tmp Tryz.results9 _ _ w.heap.size (w.heap.size + 1) 25 recZ recZ (0, 0) (0, 0) _ (.int .i64 1) (by kernel_rfl) (by kernel_rfl) (by kernel_rfl) hT2.1 hT2.2 Tryz.underlying25 rfl (by rw [recZ_size]; exact info_rec) (by rw [recZ_size]; exact info_rec)) (by kernel_rfl) ⟨rfl, ((HG.out.drew).then_new hg1 (fun x e => by omega)).then_new hg2 (fun x e => by omega)⟩
    · refine g_store 25 (.tmp 2) (.tmp 14) w.heap.size recZ rfl (by kernel_rfl) (by kernel_rfl) (by kernel_rfl) (by kernel_rfl) (by kernel_rfl) 25 ⟨_, hTd.1, rfl⟩ (by rw [recZ_size]; exact info_rec) recZ_one ?_
      intro W1 hg1 hb1
      have hT1 := hTd.put1 hne hg1 hb1
      refine g_one 1 (by kernel_rfl) ?_
      refine g_load (some 15) 25 (.tmp 3) (w.heap.size + 1) 0 recZ _ rfl (by kernel_rfl) (by kernel_rfl) (by kernel_rfl) (by kernel_rfl) hT1.right Tryz.underlying25 rfl (by rw [recZ_size]; exact info_rec) ?_
      simp only [Act.put, List.setIfInBounds_toArray, List.set_cons_zero, List.set_cons_succ]
      refine g_one 3 (by kernel_rfl) ?_
      refine g_store 25 (.tmp 3) (.tmp 15) (w.heap.size + 1) recZ rfl (by kernel_rfl) (by kernel_rfl) (by kernel_rfl) (by kernel_rfl) (by kernel_rfl) 25 ⟨_, hT1.2, rfl⟩ (by rw [recZ_size]; exact info_rec) recZ_one ?_
      intro W2 hg2 hb2
      have hT2 := hT1.put2 hne hg2 hb2
      refine g_one 4 (by kernel_rfl) ?_
      refine g_pure (some 4) (.int .i64 1) rfl (by kernel_rfl) (by kernel_rfl) (by go_simp) ?_
      simp only [Act.put, List.setIfInBounds_toArray, List.set_cons_zero, List.set_cons_succ]
      refine wpAny_done (by kernel_rfl) ?_ _
      go_wp2
      exact bodyPost_ret (run_results_cell2_tmp Tryz.results9 _ _ w.heap.size (w.heap.size + 1) 25 recZ recZ (0, 0) (0, 0) _ (.int .i64 1) (by kernel_rfl) (by kernel_rfl) (by kernel_rfl) hT2.1 hT2.2 Tryz.underlying25 rfl (by rw [recZ_size]; exact info_rec) (by rw [recZ_size]; exact info_rec)) (by kernel_rfl) ⟨rfl, ((HG.out.drew).then_new hg1 (fun x e => by omega)).then_new hg2 (fun x e => by omega)⟩
  · refine g_load (some 15) 25 (.tmp 3) (w.heap.size + 1) 0 recZ _ rfl (by kernel_rfl) (by kernel_rfl) (by kernel_rfl) (by kernel_rfl) hTd.right Tryz.underlying25 rfl (by rw [recZ_size]; exact info_rec) ?_
    simp only [Act.put, List.setIfInBounds_toArray, List.set_cons_zero, List.set_cons_succ]
    refine g_one 0 (by kernel_rfl) ?_
    refine g_load (some 14) 25 (.tmp 2) w.heap.size 0 recZ _ rfl (by kernel_rfl) (by kernel_rfl) (by kernel_rfl) (by kernel_rfl) hTd.left Tryz.underlying25 rfl (by rw [recZ_size]; exact info_rec) ?_
    simp only [Act.put, List.setIfInBounds_toArray, List.set_cons_zero, List.set_cons_succ]
    refine g_one 2 (by kernel_rfl) ?_
    refine g_store 25 (.tmp 2) (.tmp 14) w.heap.size recZ rfl (by kernel_rfl) (by kernel_rfl) (by kernel_rfl) (by kernel_rfl) (by kernel_rfl) 25 ⟨_, hTd.1, rfl⟩ (by rw [recZ_size]; exact info_rec) recZ_one ?_
    intro W1 hg1 hb1
    have hT1 := hTd.put1 hne hg1 hb1
    refine g_one 3 (by kernel_rfl) ?_
    refine g_store 25 (.tmp 3) (.tmp 15) (w.heap.size + 1) recZ rfl (by kernel_rfl) (by kernel_rfl) (by kernel_rfl) (by kernel_rfl) (by kernel_rfl) 25 ⟨_, hT1.2, rfl⟩ (by rw [recZ_size]; exact info_rec) recZ_one ?_
    intro W2 hg2 hb2
    have hT2 := hT1.put2 hne hg2 hb2
    refine g_one 4 (by kernel_rfl) ?_
    refine g_pure (some 4) (.int .i64 1) rfl (by kernel_rfl) (by kernel_rfl) (by go_simp) ?_
    simp only [Act.put, List.setIfInBounds_toArray, List.set_cons_zero, List.set_cons_succ]
    refine wpAny_done (by kernel_rfl) ?_ _
    go_wp2
    exact bodyPost_ret (run_results_cell2_tmp Tryz.results9 _ _ w.heap.size (w.heap.size + 1) 25 recZ recZ (0, 0) (0, 0) _ (.int .i64 1) (by kernel_rfl) (by kernel_rfl) (by kernel_rfl) hT2.1 hT2.2 Tryz.underlying25 rfl (by rw [recZ_size]; exact info_rec) (by rw [recZ_size]; exact info_rec)) (by kernel_rfl) ⟨rfl, ((HG.out.drew).then_new hg1 (fun x e => by omega)).then_new hg2 (fun x e => by omega)⟩
end Go.Proofs.YthhbdejagglgbaaGreat
