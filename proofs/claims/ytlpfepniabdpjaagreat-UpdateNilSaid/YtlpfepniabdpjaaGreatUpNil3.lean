/- Great at one act. -/
import Derived.Test.YtlpfepniabdpjaaGreatUpNil2
namespace Go.Proofs.YtlpfepniabdpjaaGreat
open Go.RowKit
set_option linter.unusedVariables false

set_option maxRecDepth 100000 in
set_option maxHeartbeats 1000000 in
theorem great_ok (bL : Nat) (C M : Array Value) (aB aW aP aC : Option Addr) (nB cB nW cW nP cP nC cC : Nat) (w : World) (hL : w.heap[bL]? = some (.cells C 35 (0, 0))) (hC3 : C[3]? = some (.slice aB nB cB))
    (hM69 : M.size = 69) (hM : (C.toList.drop 4).take 69 = M.toList) (h1 : M[34]? = some (.slice aW nW cW)) (h2 : M[35]? = some (.slice aP nP cP)) (h3 : M[36]? = some (.slice aC nC cC))
    (hP : PartsOk w aP nP) (hn : nP ≤ 9223372036854775807) (hnB : nB ≤ 9223372036854775807) :
    Calls Tryz.prog 4 #[.slice (some ⟨bL, 0, none⟩) 1 1] w fun e w' => (∃ g : Bool, e = .returned (.bool g)) ∧ Chg Non w w' := by
  have HWt := Lib.hid (fun W (hg : Chg Non w W) => weight_ok M aW aP aC nW cW nP cP nC cC W h1 h2 h3 (hP.non hg) hn)
  have HC3 := Lib.hid (row_cell hL hC3)
  have HRM := Lib.hid (row_mid hL 4 69 _ hM)
  have hw0 : IntKind.i64.wrap (nB : Int) = nB := Go.IntWalk.i64_in _ (by omega)
  clear hP h1 h2 h3 hL hC3 hM
  go_enter Tryz.func4, Tryz.ntmps4
  go_wp2_with fail
  refine wp_loop_rounds 2 ?_
  rw [rounds_succ]
  go_wp2_with fail
  refine wp_region_held_drew (S := Chg Non w.drew) (by kernel_rfl) (Chg.refl _ _) (fun _ => ?_)
  refine h_pure 0 (some 11) (.int .i64 0) rfl (by kernel_rfl) (by kernel_rfl) (by kernel_rfl) (by kernel_rfl) (fun _ _ _ h => h) (by kernel_rfl) (fun w e => by go_simp) (Chg.refl _ _) ?_
  simp only [Act.put, List.setIfInBounds_toArray, List.set_cons_zero, List.set_cons_succ]
  refine h_pure 1 (some 12) (.slice (some ⟨bL, 0, none⟩) 1 1) rfl (by kernel_rfl) (by kernel_rfl) (by kernel_rfl) (by kernel_rfl) (fun _ _ _ h => h) (by kernel_rfl) (fun w e => by go_simp) (Chg.refl _ _) ?_
  simp only [Act.put, List.setIfInBounds_toArray, List.set_cons_zero, List.set_cons_succ]
  refine h_pure 2 (some 13) (.int .i64 0) rfl (by kernel_rfl) (by kernel_rfl) (by kernel_rfl) (by kernel_rfl) (fun _ _ _ h => h) (by kernel_rfl) (fun w e => by go_simp) (Chg.refl _ _) ?_
  simp only [Act.put, List.setIfInBounds_toArray, List.set_cons_zero, List.set_cons_succ]
  refine h_pure 3 (some 14) (.pointer (some ⟨bL, 0, none⟩)) rfl (by kernel_rfl) (by kernel_rfl) (by kernel_rfl) (by kernel_rfl) (fun _ _ _ h => h) (by kernel_rfl) (fun w e => by go_simp) (Chg.refl _ _) ?_
  simp only [Act.put, List.setIfInBounds_toArray, List.set_cons_zero, List.set_cons_succ]
  refine h_pure 4 (some 15) (.pointer (some ⟨bL, 3, none⟩)) rfl (by kernel_rfl) (by kernel_rfl) (by kernel_rfl) (by kernel_rfl) (fun _ _ _ h => h) (by kernel_rfl) (fun w e => by go_simp) (Chg.refl _ _) ?_
  simp only [Act.put, List.setIfInBounds_toArray, List.set_cons_zero, List.set_cons_succ]
  refine h_pure 5 (some 16) (.slice aB nB cB) rfl (by kernel_rfl) (by kernel_rfl) (by kernel_rfl) (by kernel_rfl) (fun _ _ _ h => h) (by kernel_rfl) (fun w e => by have := e.cell_some HC3.out (fun e => e); go_simp) (Chg.refl _ _) ?_
  simp only [Act.put, List.setIfInBounds_toArray, List.set_cons_zero, List.set_cons_succ]
  refine h_pure 6 (some 17) (.int .i64 (nB : Int)) rfl (by kernel_rfl) (by kernel_rfl) (by kernel_rfl) (by kernel_rfl) (fun _ _ _ h => h) (by kernel_rfl) (fun w e => by go_simp) (Chg.refl _ _) ?_
  simp only [Act.put, List.setIfInBounds_toArray, List.set_cons_zero, List.set_cons_succ]
  refine h_pure 7 (some 18) (.int .i64 (nB : Int)) rfl (by kernel_rfl) (by kernel_rfl) (by kernel_rfl) (by kernel_rfl) (fun _ _ _ h => h) (by kernel_rfl) (fun w e => by go_simp) (Chg.refl _ _) ?_
  simp only [Act.put, List.setIfInBounds_toArray, List.set_cons_zero, List.set_cons_succ]
  refine h_pure 8 (some 19) (.slice (some ⟨bL, 0, none⟩) 1 1) rfl (by kernel_rfl) (by kernel_rfl) (by kernel_rfl) (by kernel_rfl) (fun _ _ _ h => h) (by kernel_rfl) (fun w e => by go_simp) (Chg.refl _ _) ?_
  simp only [Act.put, List.setIfInBounds_toArray, List.set_cons_zero, List.set_cons_succ]
  refine h_pure 9 (some 20) (.int .i64 0) rfl (by kernel_rfl) (by kernel_rfl) (by kernel_rfl) (by kernel_rfl) (fun _ _ _ h => h) (by kernel_rfl) (fun w e => by go_simp) (Chg.refl _ _) ?_
  simp only [Act.put, List.setIfInBounds_toArray, List.set_cons_zero, List.set_cons_succ]
  refine h_pure 10 (some 21) (.pointer (some ⟨bL, 0, none⟩)) rfl (by kernel_rfl) (by kernel_rfl) (by kernel_rfl) (by kernel_rfl) (fun _ _ _ h => h) (by kernel_rfl) (fun w e => by go_simp) (Chg.refl _ _) ?_
  simp only [Act.put, List.setIfInBounds_toArray, List.set_cons_zero, List.set_cons_succ]
  refine h_pure 11 (some 22) (.pointer (some ⟨bL, 4, none⟩)) rfl (by kernel_rfl) (by kernel_rfl) (by kernel_rfl) (by kernel_rfl) (fun _ _ _ h => h) (by kernel_rfl) (fun w e => by go_simp) (Chg.refl _ _) ?_
  simp only [Act.put, List.setIfInBounds_toArray, List.set_cons_zero, List.set_cons_succ]
  refine h_load 12 (some 23) 31 (.tmp 22) bL 4 M _ rfl (by kernel_rfl) (by kernel_rfl) (by kernel_rfl) (by kernel_rfl) (by kernel_rfl) (fun _ _ _ h => h) (by kernel_rfl) (by kernel_rfl) (fun w h => rangeN h HRM.out) Tryz.underlying31 rfl (by rw [hM69]; exact info_man) (Chg.refl _ _) ?_
  simp only [Act.put, List.setIfInBounds_toArray, List.set_cons_zero, List.set_cons_succ]
  refine h_one 13 (by kernel_rfl) rfl (by kernel_rfl) ?_
  intro K hK
  go_simp
  refine (HWt.out _ ((Chg.refl Non w).drew)).mono ?_
  rintro e u ⟨⟨z, rfl⟩, hg⟩
  have HGu := Lib.hid ((Chg.refl Non w).drew.then_non hg)
  obtain ⟨s, hs⟩ : ∃ s : Int, IntKind.i64.wrap ((nB : Int) + z) = s := ⟨_, rfl⟩
  have hs2 : wrap64 ((nB : Int) + z) = s := by rw [← hs]; exact (Go.IntWalk.i64_left _).symm
  refine hK.out _ _ hg (fun _ => ?_)
  clear hK K
  refine h_pure 14 (some 25) (.int .i64 s) rfl (by kernel_rfl) (by kernel_rfl) (by kernel_rfl) (by kernel_rfl) (fun _ _ _ h => h) (by kernel_rfl) (fun w e => by go_simp) hg ?_
  simp only [Act.put, List.setIfInBounds_toArray, List.set_cons_zero, List.set_cons_succ]
  refine h_pure 15 (some 3) (.int .i64 s) rfl (by kernel_rfl) (by kernel_rfl) (by kernel_rfl) (by kernel_rfl) (fun _ _ _ h => h) (by kernel_rfl) (fun w e => by go_simp) hg ?_
  simp only [Act.put, List.setIfInBounds_toArray, List.set_cons_zero, List.set_cons_succ]
  refine wpAnyH_done (by kernel_rfl) ?_ _
  by_cases hbig : 12000 < s
  · have hd : decide (12000 < s) = true := by simpa using hbig
    go_wp2_with fail
    go_ret
    exact ⟨⟨_, rfl⟩, HGu.out⟩
  · have hd : decide (12000 < s) = false := by simpa using hbig
    go_wp2_with fail
    rw [rounds_succ]
    go_wp2_with fail
    go_ret
    exact ⟨⟨_, rfl⟩, HGu.out⟩
end Go.Proofs.YtlpfepniabdpjaaGreat
