/- Walks of package system at what nobody made. -/
import Derived.Test.YtlpfepniabdpjabGreatRows
import Derived.Test.YtlpfepniabdpjabGreatGen
namespace Go.Proofs.YtlpfepniabdpjabGreat
open Go.RowKit
set_option linter.unusedVariables false

/-- nobody made this: nil, or no disk in it -/
def NoSys (w : World) (p : Option Addr) : Prop := match p with
  | none => True
  | some a => a.spot = none ∧ w.cell? ⟨a.block, a.off + 1, none⟩ = some (.pointer none)
theorem noSys_keep {w W : World} {p : Option Addr} (h : NoSys w p) (hg : Chg Non w W) : NoSys W p := by
  rcases p with _ | ⟨b, o, s⟩
  · trivial
  · exact ⟨h.1, hg.cell_some h.2 (fun e => e)⟩

def manZ : Array Value := #[.int .i64 0] ++ Array.replicate 32 (.int .u8 0) ++ #[.int .i64 0, .slice none 0 0, .slice none 0 0, .slice none 0 0] ++ Array.replicate 32 (.int .u8 0)
theorem manZ_size : manZ.size = 69 := by kernel_rfl
theorem manZ_one : manZ.all (·.oneCell') = true := by kernel_rfl
theorem info_man : (Tryz.prog.info? 34).map (·.size) = some 69 := by kernel_rfl
def partZ : Array Value := #[.int .i64 0, .int .i64 0, .bool false] ++ Array.replicate 9 (.int .u32 0) ++ #[.int .u8 0, .slice none 0 0]
theorem partZ_size : partZ.size = 14 := by kernel_rfl
theorem partZ_one : partZ.all (·.oneCell') = true := by kernel_rfl
theorem info_part : (Tryz.prog.info? 56).map (·.size) = some 14 := by kernel_rfl
def phZ : Array Value := #[.int .u8 0, .int .i64 0]
theorem info_ph : (Tryz.prog.info? 43).map (·.size) = some phZ.size := by kernel_rfl
def phZ2 : Array Value := #[.int .i64 0, .int .i64 0]
theorem info_ph2 : (Tryz.prog.info? 63).map (·.size) = some phZ2.size := by kernel_rfl
def staZ : Array Value := #[.int .i64 0, .slice none 0 0, .slice none 0 0]
theorem info_sta : (Tryz.prog.info? 68).map (·.size) = some staZ.size := by kernel_rfl

set_option maxRecDepth 100000 in
set_option maxHeartbeats 400000 in
theorem yNone (p : Option Addr) (w : World) (hp : NoSys w p) :
    Calls Tryz.prog 17 #[.pointer p] w fun e w' => e = .returned (.bool true) ∧ w = w' := by
  rcases p with _ | ⟨b, o, s⟩
  · go_enter Tryz.func17, Tryz.ntmps17
    go_wp2
    go_ret
    exact ⟨rfl, rfl⟩
  · obtain ⟨rfl, hc⟩ := hp
    go_enter Tryz.func17, Tryz.ntmps17
    go_wp2
    go_ret
    exact ⟨rfl, rfl⟩

set_option maxRecDepth 100000 in
set_option maxHeartbeats 400000 in
theorem yUp (p : Option Addr) (w : World) (hp : NoSys w p) :
    Calls Tryz.prog 8 #[.pointer p] w fun e w' => e = .returned (.bool false) ∧ w = w' := by
  have HN := Lib.hid (yNone p w hp)
  clear hp
  go_enter Tryz.func8, Tryz.ntmps8
  go_wp2_with fail
  refine HN.out.mono ?_
  rintro e w' ⟨rfl, rfl⟩
  go_wp2_with fail
  go_ret
  exact ⟨rfl, rfl⟩

set_option maxRecDepth 100000 in
set_option maxHeartbeats 400000 in
theorem yAt (p : Option Addr) (w : World) (hp : NoSys w p) :
    Calls Tryz.prog 11 #[.pointer p] w fun e w' => e = .returned (.int .i64 0) ∧ w = w' := by
  have HN := Lib.hid (yUp p w hp)
  clear hp
  go_enter Tryz.func11, Tryz.ntmps11
  go_wp2_with fail
  refine HN.out.mono ?_
  rintro e w' ⟨rfl, rfl⟩
  go_wp2_with fail
  go_ret
  exact ⟨rfl, rfl⟩

set_option maxRecDepth 100000 in
set_option maxHeartbeats 400000 in
theorem yStaged (p : Option Addr) (w : World) (hp : NoSys w p) :
    Calls Tryz.prog 12 #[.pointer p] w fun e w' => e = .returned (.int .i64 0) ∧ w = w' := by
  have HN := Lib.hid (yUp p w hp)
  clear hp
  go_enter Tryz.func12, Tryz.ntmps12
  go_wp2_with fail
  refine HN.out.mono ?_
  rintro e w' ⟨rfl, rfl⟩
  go_wp2_with fail
  go_ret
  exact ⟨rfl, rfl⟩

set_option maxRecDepth 100000 in
set_option maxHeartbeats 400000 in
theorem yPhys (p : Option Addr) (w : World) (hp : NoSys w p) :
    Calls Tryz.prog 13 #[.pointer p] w fun e w' => e = .returned (.slice none 0 0) ∧ w = w' := by
  have HN := Lib.hid (yUp p w hp)
  clear hp
  go_enter Tryz.func13, Tryz.ntmps13
  go_wp2_with fail
  refine HN.out.mono ?_
  rintro e w' ⟨rfl, rfl⟩
  go_wp2_with fail
  go_ret
  exact ⟨rfl, rfl⟩

set_option maxRecDepth 100000 in
set_option maxHeartbeats 400000 in
theorem yDo (p : Option Addr) (E : Array Value) (w : World) (hp : NoSys w p) :
    Calls Tryz.prog 7 #[.pointer p, .agg E] w fun e w' => e = .returned (.int .i64 1) ∧ Chg Non w w' := by
  have HN := Lib.hid (fun W (hg : Chg Non w W) => yNone p W (noSys_keep hp hg))
  clear hp
  go_enter Tryz.func7, Tryz.ntmps7
  go_wp2_with fail
  refine (HN.out _ ((Chg.refl Non w).alloc _)).mono ?_
  rintro e w' ⟨rfl, rfl⟩
  go_wp2_with fail
  go_ret
  exact ⟨rfl, (Chg.refl Non w).alloc _⟩

set_option maxRecDepth 100000 in
set_option maxHeartbeats 1000000 in
theorem yRunning (p : Option Addr) (w : World) (hp : NoSys w p) :
    Calls Tryz.prog 5 #[.pointer p] w fun e w' => e = .returned (.tuple #[.agg manZ, .int .i64 0]) ∧ Chg Non w w' := by
  have HN := Lib.hid (fun W (hg : Chg Non w W) => yUp p W (noSys_keep hp hg))
  clear hp
  go_enter Tryz.func5, Tryz.ntmps5
  go_wp2_with fail
  refine (HN.out _ ((Chg.refl Non w).alloc _)).mono ?_
  rintro e w' ⟨rfl, rfl⟩
  go_wp2_with (first
    | (refine sel (some 9) (.build 34 #[]) ?_
       refine wpList_pureW (some 9) (.agg manZ) rfl (by kernel_rfl) (by kernel_rfl) ?_)
    | (refine sel none (.store 34 (.tmp 2) (.tmp 9)) ?_
       refine wpList_store_rowA rfl 34 (.tmp 2) (.tmp 9) rfl w.heap.size manZ rfl rfl 34 _ (heap_alloc_new _ _) (by rw [manZ_size]; exact info_man) (by rw [manZ_size]; kernel_rfl) manZ_one ?_
       intro v1 hg1 hb1
       have HB := Lib.hid hb1
       have HG := Lib.hid (((Chg.refl Non w).alloc _).then_new hg1 (fun x e => by omega))
       clear hg1 hb1))
  refine bodyPost_ret (results_ct Tryz.results5 _ _ w.heap.size 34 manZ (0, 0) _ (.int .i64 0) (by kernel_rfl) (by kernel_rfl) HB.out Tryz.underlying34 rfl (by rw [manZ_size]; exact info_man)) (by kernel_rfl) ⟨rfl, HG.out⟩

set_option maxRecDepth 100000 in
set_option maxHeartbeats 1000000 in
theorem yLook (p : Option Addr) (i : Int) (w : World) (hp : NoSys w p) :
    Calls Tryz.prog 6 #[.pointer p, .int .i64 i] w fun e w' => e = .returned (.tuple #[.agg partZ, .bool false]) ∧ Chg Non w w' := by
  have HN := Lib.hid (fun W (hg : Chg Non w W) => yUp p W (noSys_keep hp hg))
  clear hp
  go_enter Tryz.func6, Tryz.ntmps6
  go_wp2_with fail
  refine (HN.out _ ((Chg.refl Non w).alloc _)).mono ?_
  rintro e w' ⟨rfl, rfl⟩
  go_wp2_with (first
    | (refine sel (some 9) (.build 56 #[]) ?_
       refine wpList_pureW (some 9) (.agg partZ) rfl (by kernel_rfl) (by kernel_rfl) ?_)
    | (refine sel none (.store 56 (.tmp 4) (.tmp 9)) ?_
       refine wpList_store_rowA rfl 56 (.tmp 4) (.tmp 9) rfl w.heap.size partZ rfl rfl 56 _ (heap_alloc_new _ _) (by rw [partZ_size]; exact info_part) (by rw [partZ_size]; rfl) partZ_one ?_
       intro v1 hg1 hb1
       have HB := Lib.hid hb1
       have HG := Lib.hid (((Chg.refl Non w).alloc _).then_new hg1 (fun x e => by omega))
       clear hg1 hb1))
  refine bodyPost_ret (results_ct Tryz.results6 _ _ w.heap.size 56 partZ (0, 0) _ (.bool false) (by kernel_rfl) (by kernel_rfl) HB.out Tryz.underlying56 rfl (by rw [partZ_size]; exact info_part)) (by kernel_rfl) ⟨rfl, HG.out⟩

set_option maxRecDepth 100000 in
set_option maxHeartbeats 1000000 in
theorem yState (p : Option Addr) (w : World) (hp : NoSys w p) :
    Calls Tryz.prog 10 #[.pointer p] w fun e w' => e = .returned (.agg staZ) ∧ Chg Non w w' := by
  have HN := Lib.hid (fun W (hg : Chg Non w W) => yUp p W (noSys_keep hp hg))
  clear hp
  go_enter Tryz.func10, Tryz.ntmps10
  go_wp2_with fail
  refine (HN.out _ ((Chg.refl Non w).alloc _)).mono ?_
  rintro e w' ⟨rfl, rfl⟩
  go_wp2_with (first
    | (refine sel (some 6) (.build 68 #[]) ?_
       refine wpList_pureW (some 6) (.agg staZ) rfl (by kernel_rfl) (by kernel_rfl) ?_)
    | (refine sel none (.store 68 (.tmp 2) (.tmp 6)) ?_
       refine wpList_store_rowA rfl 68 (.tmp 2) (.tmp 6) rfl w.heap.size staZ rfl rfl 68 _ (heap_alloc_new _ _) info_sta rfl (by kernel_rfl) ?_
       intro v1 hg1 hb1
       have HB := Lib.hid hb1
       have HG := Lib.hid (((Chg.refl Non w).alloc _).then_new hg1 (fun x e => by omega))
       clear hg1 hb1))
  refine bodyPost_ret (results_cell_row Tryz.results10 _ _ w.heap.size 68 staZ (0, 0) _ (by kernel_rfl) HB.out Tryz.underlying68 rfl info_sta) (by kernel_rfl) ⟨rfl, HG.out⟩

set_option maxRecDepth 100000 in
set_option maxHeartbeats 1000000 in
theorem yPhase (p : Option Addr) (w : World) (hp : NoSys w p) :
    Calls Tryz.prog 20 #[.pointer p] w fun e w' => e = .returned (.agg phZ) ∧ Chg Non w w' := by
  have HN := Lib.hid (fun W (hg : Chg Non w W) => yUp p W (noSys_keep hp hg))
  clear hp
  go_enter Tryz.func20, Tryz.ntmps20
  go_wp2_with fail
  refine (HN.out _ ((Chg.refl Non w).alloc _)).mono ?_
  rintro e w' ⟨rfl, rfl⟩
  go_wp2_with (first
    | (refine sel (some 6) (.build 43 #[]) ?_
       refine wpList_pureW (some 6) (.agg phZ) rfl (by kernel_rfl) (by kernel_rfl) ?_)
    | (refine sel none (.store 43 (.tmp 2) (.tmp 6)) ?_
       refine wpList_store_rowA rfl 43 (.tmp 2) (.tmp 6) rfl w.heap.size phZ rfl rfl 43 _ (heap_alloc_new _ _) info_ph rfl (by kernel_rfl) ?_
       intro v1 hg1 hb1
       have HB := Lib.hid hb1
       have HG := Lib.hid (((Chg.refl Non w).alloc _).then_new hg1 (fun x e => by omega))
       clear hg1 hb1))
  refine bodyPost_ret (results_cell_row Tryz.results20 _ _ w.heap.size 43 phZ (0, 0) _ (by kernel_rfl) HB.out Tryz.underlying43 rfl info_ph) (by kernel_rfl) ⟨rfl, HG.out⟩

set_option maxRecDepth 100000 in
set_option maxHeartbeats 1000000 in
theorem lphase (p : Option Addr) (w : World) (hp : NoSys w p) :
    Calls Tryz.prog 9 #[.pointer p] w fun e w' => e = .returned (.agg phZ2) ∧ Chg Non w w' := by
  have HN := Lib.hid (fun W (hg : Chg Non w W) => yPhase p W (noSys_keep hp hg))
  clear hp
  go_enter Tryz.func9, Tryz.ntmps9
  go_wp2_with fail
  refine (HN.out _ ((Chg.refl Non w).alloc _)).mono ?_
  rintro e u ⟨rfl, hg⟩
  have HB2 := Lib.hid (blockN hg (heap_alloc_new _ _))
  have HU := Lib.hid (((Chg.refl Non w).alloc _).then_non hg)
  have hsz : w.heap.size < u.heap.size := (Array.getElem?_eq_some_iff.1 HB2.out).1
  clear hg
  go_wp2_with (first
    | (refine sel none (.store 43 (.tmp 3) (.tmp 5)) ?_
       refine wpList_store_rowA rfl 43 (.tmp 3) (.tmp 5) rfl u.heap.size phZ rfl rfl 43 _ (heap_alloc_new _ _) info_ph rfl (by kernel_rfl) ?_
       intro v1 hg1 hb1
       have hgn : Chg Non u v1 := ((Chg.refl Non u).alloc _).then_new hg1 (fun x e => by omega)
       have k0 := row_cell hb1 (show phZ[0]? = some (.int .u8 0) from rfl)
       have k1 := row_cell hb1 (show phZ[1]? = some (.int .i64 0) from rfl)
       have HBv := Lib.hid (blockN hgn HB2.out)
       have HV := Lib.hid (HU.out.then_non hgn)
       clear hg1 hb1 hgn)
    | (refine sel none (.store 63 (.tmp 2) (.tmp 11)) ?_
       refine wpList_store_rowA rfl 63 (.tmp 2) (.tmp 11) rfl w.heap.size phZ2 rfl rfl 63 _ HBv.out info_ph2 rfl (by kernel_rfl) ?_
       intro v2 hg2 hb2
       have HB := Lib.hid hb2
       have HG := Lib.hid (HV.out.then_new hg2 (fun x e => by omega))
       clear hg2 hb2))
  refine bodyPost_ret (results_cell_row Tryz.results9 _ _ w.heap.size 63 phZ2 (0, 0) _ (by kernel_rfl) HB.out Tryz.underlying63 rfl info_ph2) (by kernel_rfl) ⟨rfl, HG.out⟩
end Go.Proofs.YtlpfepniabdpjabGreat
