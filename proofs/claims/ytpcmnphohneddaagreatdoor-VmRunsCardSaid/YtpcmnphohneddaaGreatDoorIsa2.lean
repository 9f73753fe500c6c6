/- Walks of package isa: of, register, May. -/
import Derived.Test.YtpcmnphohneddaaGreatDoorIsa1
namespace Go.Proofs.YtpcmnphohneddaaGreatDoor
open Go.RowKit
set_option linter.unusedVariables false

theorem idx_tbl0 (w : World) : (Instr.index 83 (.agg tblC) (.int .u8 0)).run Tryz.prog w = .ok (.agg (opC (opAt 0))) w ∧ (Instr.index 83 (.agg tblC) (.int .i64 0)).run Tryz.prog w = .ok (.agg (opC (opAt 0))) w := ⟨by kernel_rfl, by kernel_rfl⟩
theorem idx_tbl1 (w : World) : (Instr.index 83 (.agg tblC) (.int .u8 1)).run Tryz.prog w = .ok (.agg (opC (opAt 1))) w ∧ (Instr.index 83 (.agg tblC) (.int .i64 1)).run Tryz.prog w = .ok (.agg (opC (opAt 1))) w := ⟨by kernel_rfl, by kernel_rfl⟩
theorem idx_tbl2 (w : World) : (Instr.index 83 (.agg tblC) (.int .u8 2)).run Tryz.prog w = .ok (.agg (opC (opAt 2))) w ∧ (Instr.index 83 (.agg tblC) (.int .i64 2)).run Tryz.prog w = .ok (.agg (opC (opAt 2))) w := ⟨by kernel_rfl, by kernel_rfl⟩
theorem idx_tbl3 (w : World) : (Instr.index 83 (.agg tblC) (.int .u8 3)).run Tryz.prog w = .ok (.agg (opC (opAt 3))) w ∧ (Instr.index 83 (.agg tblC) (.int .i64 3)).run Tryz.prog w = .ok (.agg (opC (opAt 3))) w := ⟨by kernel_rfl, by kernel_rfl⟩
theorem idx_tbl4 (w : World) : (Instr.index 83 (.agg tblC) (.int .u8 4)).run Tryz.prog w = .ok (.agg (opC (opAt 4))) w ∧ (Instr.index 83 (.agg tblC) (.int .i64 4)).run Tryz.prog w = .ok (.agg (opC (opAt 4))) w := ⟨by kernel_rfl, by kernel_rfl⟩
theorem idx_tbl5 (w : World) : (Instr.index 83 (.agg tblC) (.int .u8 5)).run Tryz.prog w = .ok (.agg (opC (opAt 5))) w ∧ (Instr.index 83 (.agg tblC) (.int .i64 5)).run Tryz.prog w = .ok (.agg (opC (opAt 5))) w := ⟨by kernel_rfl, by kernel_rfl⟩
theorem idx_tbl6 (w : World) : (Instr.index 83 (.agg tblC) (.int .u8 6)).run Tryz.prog w = .ok (.agg (opC (opAt 6))) w ∧ (Instr.index 83 (.agg tblC) (.int .i64 6)).run Tryz.prog w = .ok (.agg (opC (opAt 6))) w := ⟨by kernel_rfl, by kernel_rfl⟩
theorem idx_tbl7 (w : World) : (Instr.index 83 (.agg tblC) (.int .u8 7)).run Tryz.prog w = .ok (.agg (opC (opAt 7))) w ∧ (Instr.index 83 (.agg tblC) (.int .i64 7)).run Tryz.prog w = .ok (.agg (opC (opAt 7))) w := ⟨by kernel_rfl, by kernel_rfl⟩
theorem idx_tbl8 (w : World) : (Instr.index 83 (.agg tblC) (.int .u8 8)).run Tryz.prog w = .ok (.agg (opC (opAt 8))) w ∧ (Instr.index 83 (.agg tblC) (.int .i64 8)).run Tryz.prog w = .ok (.agg (opC (opAt 8))) w := ⟨by kernel_rfl, by kernel_rfl⟩
theorem idx_tbl9 (w : World) : (Instr.index 83 (.agg tblC) (.int .u8 9)).run Tryz.prog w = .ok (.agg (opC (opAt 9))) w ∧ (Instr.index 83 (.agg tblC) (.int .i64 9)).run Tryz.prog w = .ok (.agg (opC (opAt 9))) w := ⟨by kernel_rfl, by kernel_rfl⟩
theorem idx_tbl10 (w : World) : (Instr.index 83 (.agg tblC) (.int .u8 10)).run Tryz.prog w = .ok (.agg (opC (opAt 10))) w ∧ (Instr.index 83 (.agg tblC) (.int .i64 10)).run Tryz.prog w = .ok (.agg (opC (opAt 10))) w := ⟨by kernel_rfl, by kernel_rfl⟩
theorem idx_tbl11 (w : World) : (Instr.index 83 (.agg tblC) (.int .u8 11)).run Tryz.prog w = .ok (.agg (opC (opAt 11))) w ∧ (Instr.index 83 (.agg tblC) (.int .i64 11)).run Tryz.prog w = .ok (.agg (opC (opAt 11))) w := ⟨by kernel_rfl, by kernel_rfl⟩
theorem idx_tbl12 (w : World) : (Instr.index 83 (.agg tblC) (.int .u8 12)).run Tryz.prog w = .ok (.agg (opC (opAt 12))) w ∧ (Instr.index 83 (.agg tblC) (.int .i64 12)).run Tryz.prog w = .ok (.agg (opC (opAt 12))) w := ⟨by kernel_rfl, by kernel_rfl⟩
theorem idx_tbl13 (w : World) : (Instr.index 83 (.agg tblC) (.int .u8 13)).run Tryz.prog w = .ok (.agg (opC (opAt 13))) w ∧ (Instr.index 83 (.agg tblC) (.int .i64 13)).run Tryz.prog w = .ok (.agg (opC (opAt 13))) w := ⟨by kernel_rfl, by kernel_rfl⟩
theorem idx_tbl14 (w : World) : (Instr.index 83 (.agg tblC) (.int .u8 14)).run Tryz.prog w = .ok (.agg (opC (opAt 14))) w ∧ (Instr.index 83 (.agg tblC) (.int .i64 14)).run Tryz.prog w = .ok (.agg (opC (opAt 14))) w := ⟨by kernel_rfl, by kernel_rfl⟩
theorem idx_tbl15 (w : World) : (Instr.index 83 (.agg tblC) (.int .u8 15)).run Tryz.prog w = .ok (.agg (opC (opAt 15))) w ∧ (Instr.index 83 (.agg tblC) (.int .i64 15)).run Tryz.prog w = .ok (.agg (opC (opAt 15))) w := ⟨by kernel_rfl, by kernel_rfl⟩
theorem idx_tbl16 (w : World) : (Instr.index 83 (.agg tblC) (.int .u8 16)).run Tryz.prog w = .ok (.agg (opC (opAt 16))) w ∧ (Instr.index 83 (.agg tblC) (.int .i64 16)).run Tryz.prog w = .ok (.agg (opC (opAt 16))) w := ⟨by kernel_rfl, by kernel_rfl⟩
theorem idx_tbl17 (w : World) : (Instr.index 83 (.agg tblC) (.int .u8 17)).run Tryz.prog w = .ok (.agg (opC (opAt 17))) w ∧ (Instr.index 83 (.agg tblC) (.int .i64 17)).run Tryz.prog w = .ok (.agg (opC (opAt 17))) w := ⟨by kernel_rfl, by kernel_rfl⟩
theorem idx_tbl18 (w : World) : (Instr.index 83 (.agg tblC) (.int .u8 18)).run Tryz.prog w = .ok (.agg (opC (opAt 18))) w ∧ (Instr.index 83 (.agg tblC) (.int .i64 18)).run Tryz.prog w = .ok (.agg (opC (opAt 18))) w := ⟨by kernel_rfl, by kernel_rfl⟩
theorem idx_tbl19 (w : World) : (Instr.index 83 (.agg tblC) (.int .u8 19)).run Tryz.prog w = .ok (.agg (opC (opAt 19))) w ∧ (Instr.index 83 (.agg tblC) (.int .i64 19)).run Tryz.prog w = .ok (.agg (opC (opAt 19))) w := ⟨by kernel_rfl, by kernel_rfl⟩
theorem idx_tbl20 (w : World) : (Instr.index 83 (.agg tblC) (.int .u8 20)).run Tryz.prog w = .ok (.agg (opC (opAt 20))) w ∧ (Instr.index 83 (.agg tblC) (.int .i64 20)).run Tryz.prog w = .ok (.agg (opC (opAt 20))) w := ⟨by kernel_rfl, by kernel_rfl⟩
theorem idx_tbl21 (w : World) : (Instr.index 83 (.agg tblC) (.int .u8 21)).run Tryz.prog w = .ok (.agg (opC (opAt 21))) w ∧ (Instr.index 83 (.agg tblC) (.int .i64 21)).run Tryz.prog w = .ok (.agg (opC (opAt 21))) w := ⟨by kernel_rfl, by kernel_rfl⟩
theorem idx_tbl (n : Nat) (h : n < 22) (w : World) : (Instr.index 83 (.agg tblC) (.int .u8 n)).run Tryz.prog w = .ok (.agg (opC (opAt n))) w ∧ (Instr.index 83 (.agg tblC) (.int .i64 n)).run Tryz.prog w = .ok (.agg (opC (opAt n))) w := by
  have h' : n = 0 ∨ n = 1 ∨ n = 2 ∨ n = 3 ∨ n = 4 ∨ n = 5 ∨ n = 6 ∨ n = 7 ∨ n = 8 ∨ n = 9 ∨ n = 10 ∨ n = 11 ∨ n = 12 ∨ n = 13 ∨ n = 14 ∨ n = 15 ∨ n = 16 ∨ n = 17 ∨ n = 18 ∨ n = 19 ∨ n = 20 ∨ n = 21 := by omega
  rcases h' with rfl | rfl | rfl | rfl | rfl | rfl | rfl | rfl | rfl | rfl | rfl | rfl | rfl | rfl | rfl | rfl | rfl | rfl | rfl | rfl | rfl | rfl
  · exact idx_tbl0 w
  · exact idx_tbl1 w
  · exact idx_tbl2 w
  · exact idx_tbl3 w
  · exact idx_tbl4 w
  · exact idx_tbl5 w
  · exact idx_tbl6 w
  · exact idx_tbl7 w
  · exact idx_tbl8 w
  · exact idx_tbl9 w
  · exact idx_tbl10 w
  · exact idx_tbl11 w
  · exact idx_tbl12 w
  · exact idx_tbl13 w
  · exact idx_tbl14 w
  · exact idx_tbl15 w
  · exact idx_tbl16 w
  · exact idx_tbl17 w
  · exact idx_tbl18 w
  · exact idx_tbl19 w
  · exact idx_tbl20 w
  · exact idx_tbl21 w

theorem new_block {w W : World} {o : Obj} (hg : Chg Non (w.alloc o) W) : W.heap[w.heap.size]? = some o :=
  (hg.block _ (by simp) (fun e => e)).trans (heap_alloc_new _ _)
/-- an op's cells, its name a string -/
def opS (s : ByteArray) (f : Frm) : Array Value := #[.string s, .bool f.a, .bool f.b, .bool f.c, .int .i64 f.n]
theorem opC_eq (f : Frm) : opC f = opS ⟨f.name.toArray⟩ f := rfl
theorem opS_one (s : ByteArray) (f : Frm) : (opS s f).all (·.oneCell') = true := by simp [opS, Value.oneCell']
theorem opS_size (s : ByteArray) (f : Frm) : (opS s f).size = 5 := rfl

set_option maxRecDepth 100000 in
set_option maxHeartbeats 1000000 in
theorem of_ok (n : Nat) (w : World) (h1 : 1 ≤ n) (h2 : n ≤ 21) :
    Calls Tryz.prog 33 #[.int .u8 n] w fun e w' => e = .returned (.tuple #[.agg (opC (opAt n)), .bool true]) ∧ Chg Non w w' := by
  have g1 : decide ((n : Int) < 1) = false := by simp; omega
  have g2 : decide ((n : Int) > 21) = false := by simp; omega
  have hidx := fun w => (idx_tbl n (by omega) w).1
  have HT := Lib.hid (fun w => table_ok w)
  obtain ⟨F, hF⟩ : ∃ F, opAt n = F := ⟨_, rfl⟩
  rw [hF] at hidx ⊢
  clear hF
  obtain ⟨C, hC⟩ : ∃ C, opC F = C := ⟨_, rfl⟩
  have h1C : C.all (·.oneCell') = true := by rw [← hC]; exact opS_one _ _
  have h5C : C.size = 5 := by rw [← hC]; rfl
  obtain ⟨T, hT⟩ : ∃ T, tblC = T := ⟨_, rfl⟩
  rw [hT] at HT hidx
  rw [hC] at hidx ⊢
  clear hT hC
  have H1 := Lib.hid h1C
  have H5 := Lib.hid h5C
  clear h1C h5C
  go_enter Tryz.func33, Tryz.ntmps33
  go_wp2_with fail
  refine (HT.out _).mono ?_
  rintro e w' ⟨rfl, hg⟩
  have HG := Lib.hid hg
  have HB := Lib.hid (new_block hg)
  clear hg
  go_wp2_with (first
    | (refine sel none (.store 73 (.tmp 2) (.tmp 13)) ?_
       refine wpList_store_rowA rfl 73 (.tmp 2) (.tmp 13) rfl w.heap.size C rfl rfl 73 _ HB.out (by rw [H5.out]; exact info_op) (by rw [H5.out]; rfl) H1.out ?_
       intro W hgW hbW
       have HBW := Lib.hid hbW
       have HGW := Lib.hid hgW
       clear hbW hgW))
  exact bodyPost_ret (results_ct Tryz.results33 _ _ w.heap.size 73 C (0, 0) _ (.bool true) rfl rfl HBW.out Tryz.underlying73 rfl (by rw [H5.out]; exact info_op)) rfl ⟨rfl, (((Chg.refl Non w).alloc _).then_non HG.out).then_new HGW.out (fun x e => by omega)⟩

set_option maxRecDepth 100000 in
set_option maxHeartbeats 1000000 in
theorem of_no (n : Nat) (w : World) (h : n = 0 ∨ 21 < n) :
    Calls Tryz.prog 33 #[.int .u8 n] w fun e w' => e = .returned (.tuple #[.agg (opC (opAt n)), .bool false]) ∧ Chg Non w w' := by
  have hF : opAt n = opNone := by
    rcases h with rfl | h
    · rfl
    · exact opAt_big n (by omega)
  rw [hF]
  have h1C : opC opNone = #[.string ⟨#[]⟩, .bool false, .bool false, .bool false, .int .i64 0] := rfl
  rw [h1C]
  clear h1C hF
  rcases h with rfl | h
  · go_enter Tryz.func33, Tryz.ntmps33
    go_wp2
    exact bodyPost_ret (results_ct Tryz.results33 _ _ w.heap.size 73 _ (0, 0) _ (.bool false) rfl rfl (heap_alloc_new _ _) Tryz.underlying73 rfl info_op) rfl ⟨rfl, (Chg.refl Non w).alloc _⟩
  · have g1 : decide ((n : Int) < 1) = false := by simp; omega
    have g2 : decide ((n : Int) > 21) = true := by simp; omega
    go_enter Tryz.func33, Tryz.ntmps33
    go_wp2
    exact bodyPost_ret (results_ct Tryz.results33 _ _ w.heap.size 73 _ (0, 0) _ (.bool false) rfl rfl (heap_alloc_new _ _) Tryz.underlying73 rfl info_op) rfl ⟨rfl, (Chg.refl Non w).alloc _⟩

/-- any number -/
theorem of_any (n : Nat) (w : World) :
    Calls Tryz.prog 33 #[.int .u8 n] w fun e w' => e = .returned (.tuple #[.agg (opC (opAt n)), .bool (okB n)]) ∧ Chg Non w w' := by
  by_cases h : 1 ≤ n ∧ n ≤ 21
  · have e : okB n = true := by simp [okB, h.1, h.2]
    rw [e]
    exact of_ok n w h.1 h.2
  · have e : okB n = false := by simp [okB]; omega
    rw [e]
    exact of_no n w (by omega)

set_option maxRecDepth 100000 in
set_option maxHeartbeats 1000000 in
theorem register_ok (x : Nat) (has : Bool) (w : World) :
    Calls Tryz.prog 65 #[.int .u8 x, .bool has] w fun e w' => e = .returned (.bool (regB x has)) ∧ w = w' := by
  cases has with
  | false =>
    have e : regB x false = ((x : Int) == 0) := by rw [Bool.eq_iff_iff]; simp [regB]
    rw [e]
    go_enter Tryz.func65, Tryz.ntmps65
    go_wp2
    go_ret
    exact ⟨rfl, rfl⟩
  | true =>
    by_cases h : x < 8
    · have g : decide ((x : Int) < 8) = true := by simp; omega
      have e : regB x true = true := by simp [regB, h]
      rw [e]
      go_enter Tryz.func65, Tryz.ntmps65
      go_wp2
      go_ret
      exact ⟨rfl, rfl⟩
    · have g : decide ((x : Int) < 8) = false := by simp; omega
      have g2 : ((x : Int) == 0) = false := by simp; omega
      have e : regB x true = false := by simp [regB]; omega
      rw [e]
      go_enter Tryz.func65, Tryz.ntmps65
      go_wp2
      go_ret
      exact ⟨rfl, rfl⟩
end Go.Proofs.YtpcmnphohneddaaGreatDoor
