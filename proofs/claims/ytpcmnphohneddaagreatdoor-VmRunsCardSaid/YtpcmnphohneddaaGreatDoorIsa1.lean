/- Walks of package isa: table, of, register, May. -/
import Derived.Test.YtpcmnphohneddaaGreatDoorRows
import Derived.Test.YtpcmnphohneddaaGreatDoorBase
import Derived.Test.YtpcmnphohneddaaGreatDoorGen
import Derived.Test.YtpcmnphohneddaaGreatDoorIsaP
namespace Go.Proofs.YtpcmnphohneddaaGreatDoor
open Go.RowKit
set_option linter.unusedVariables false

def mkStr (l : List UInt8) : Value := .string ⟨l.toArray⟩
/-- an op's cells -/
def opC (f : Frm) : Array Value := #[mkStr f.name, .bool f.a, .bool f.b, .bool f.c, .int .i64 f.n]
def tblC : Array Value := (opRows.map fun f => (opC f).toList).flatten.toArray
theorem tblC_size : tblC.size = 110 := by kernel_rfl
theorem tblC_one : tblC.all (·.oneCell') = true := by kernel_rfl
theorem info_tbl : (Tryz.prog.info? 83).map (·.size) = some 110 := by kernel_rfl
theorem info_op : (Tryz.prog.info? 73).map (·.size) = some 5 := by kernel_rfl

theorem alloc5_old (w : World) (a b c d e : Obj) : (((((w.alloc a).alloc b).alloc c).alloc d).alloc e).heap[w.heap.size]? = some a := by
  rw [Below.heap_alloc _ _ _ (by simp; omega), Below.heap_alloc _ _ _ (by simp; omega), Below.heap_alloc _ _ _ (by simp; omega), Below.heap_alloc _ _ _ (by simp), heap_alloc_new]
theorem alloc5_chg (w : World) (a b c d e : Obj) : Chg Non w (((((w.alloc a).alloc b).alloc c).alloc d).alloc e) := (((((Chg.refl _ _).alloc _).alloc _).alloc _).alloc _).alloc _
set_option maxRecDepth 100000 in
set_option maxHeartbeats 4000000 in
theorem table_ok (w : World) : Calls Tryz.prog 56 #[] w fun e w' => e = .returned (.agg tblC) ∧ Chg Non w w' := by
  go_enter Tryz.func56, Tryz.ntmps56
  go_wp2_with (first
    | (refine sel (some 52) (.build 83 _) ?_; refine wpList_pure rfl (some 52) (.agg tblC) rfl (by kernel_rfl) ?_)
    | (refine sel none (.store 83 (.tmp 0) (.tmp 52)) ?_
       refine wpList_store_rowA rfl 83 (.tmp 0) (.tmp 52) rfl w.heap.size tblC rfl rfl 83 _ (alloc5_old _ _ _ _ _ _) (by rw [tblC_size]; exact info_tbl) (by rw [tblC_size]; kernel_rfl) tblC_one ?_
       intro W hgW hbW
       have HB := Lib.hid hbW
       have HG := Lib.hid hgW
       clear hbW hgW))
  exact bodyPost_ret (results_cell_row Tryz.results56 _ _ w.heap.size 83 _ (0, 0) _ rfl HB.out Tryz.underlying83 rfl (by rw [tblC_size]; exact info_tbl)) rfl ⟨rfl, (alloc5_chg _ _ _ _ _ _).then_new HG.out (fun x e => by omega)⟩

end Go.Proofs.YtpcmnphohneddaaGreatDoor
