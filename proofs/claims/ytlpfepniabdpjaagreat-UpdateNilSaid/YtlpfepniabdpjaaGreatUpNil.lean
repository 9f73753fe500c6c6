/- Walks of package update at what nobody made. -/
import Derived.Test.YtlpfepniabdpjaaGreatRows
import Derived.Test.YtlpfepniabdpjaaGreatBase
import Derived.Test.YtlpfepniabdpjaaGreatGen
namespace Go.Proofs.YtlpfepniabdpjaaGreat
open Go.RowKit
set_option linter.unusedVariables false

/-- nobody made this: nil, or no disk in it -/
def NoSt (w : World) (p : Option Addr) : Prop := match p with
  | none => True
  | some a => a.spot = none ∧ w.cell? ⟨a.block, a.off, none⟩ = some (.pointer none)

def manZ : Array Value := #[.int .i64 0] ++ Array.replicate 32 (.int .u8 0) ++ #[.int .i64 0, .slice none 0 0, .slice none 0 0, .slice none 0 0] ++ Array.replicate 32 (.int .u8 0)
def urecZ : Array Value := #[.int .i64 0, .int .i64 0, .int .i64 0, .bool false] ++ Array.replicate 32 (.int .u8 0)
theorem manZ_size : manZ.size = 69 := by kernel_rfl
theorem manZ_one : manZ.all (·.oneCell') = true := by kernel_rfl
theorem info_man : (Tryz.prog.info? 31).map (·.size) = some 69 := by kernel_rfl
theorem urecZ_size : urecZ.size = 36 := by kernel_rfl
theorem urecZ_one : urecZ.all (·.oneCell') = true := by kernel_rfl
theorem info_urec : (Tryz.prog.info? 33).map (·.size) = some 36 := by kernel_rfl

set_option maxRecDepth 100000 in
set_option maxHeartbeats 400000 in
theorem sNone (p : Option Addr) (w : World) (hp : NoSt w p) :
    Calls Tryz.prog 17 #[.pointer p] w fun e w' => e = .returned (.bool true) ∧ w = w' := by
  rcases p with _ | ⟨b, o, s⟩
  · go_enter Tryz.func17, Tryz.ntmps17
    go_wp2
    go_ret
    exact ⟨rfl, rfl⟩
  · obtain ⟨rfl, hc⟩ := hp
    go_enter Tryz.func17, Tryz.ntmps17
    go_wp2
    go_ret
    exact ⟨rfl, rfl⟩

set_option maxRecDepth 100000 in
set_option maxHeartbeats 400000 in
theorem sBytes (p : Option Addr) (w : World) (hp : NoSt w p) :
    Calls Tryz.prog 15 #[.pointer p] w fun e w' => e = .returned (.tuple #[.slice none 0 0, .int .i64 1]) ∧ w = w' := by
  have HN := Lib.hid (sNone p w hp)
  clear hp
  go_enter Tryz.func15, Tryz.ntmps15
  go_wp2_with fail
  refine HN.out.mono ?_
  rintro e w' ⟨rfl, rfl⟩
  go_wp2_with fail
  go_ret2
  exact ⟨rfl, rfl⟩

set_option maxRecDepth 100000 in
set_option maxHeartbeats 400000 in
theorem sStage (p : Option Addr) (A : Option Addr) (n c : Nat) (w : World) (hp : NoSt w p) :
    Calls Tryz.prog 7 #[.pointer p, .slice A n c] w fun e w' => e = .returned (.int .i64 1) ∧ w = w' := by
  have HN := Lib.hid (sNone p w hp)
  clear hp
  go_enter Tryz.func7, Tryz.ntmps7
  go_wp2_with fail
  refine HN.out.mono ?_
  rintro e w' ⟨rfl, rfl⟩
  go_wp2_with fail
  go_ret
  exact ⟨rfl, rfl⟩

set_option maxRecDepth 100000 in
set_option maxHeartbeats 400000 in
theorem sAbort (p : Option Addr) (w : World) (hp : NoSt w p) :
    Calls Tryz.prog 8 #[.pointer p] w fun e w' => e = .returned (.int .i64 1) ∧ w = w' := by
  have HN := Lib.hid (sNone p w hp)
  clear hp
  go_enter Tryz.func8, Tryz.ntmps8
  go_wp2_with fail
  refine HN.out.mono ?_
  rintro e w' ⟨rfl, rfl⟩
  go_wp2_with fail
  go_ret
  exact ⟨rfl, rfl⟩

set_option maxRecDepth 100000 in
set_option maxHeartbeats 400000 in
theorem sLen (p : Option Addr) (w : World) (hp : NoSt w p) :
    Calls Tryz.prog 9 #[.pointer p] w fun e w' => e = .returned (.int .i64 0) ∧ w = w' := by
  have HN := Lib.hid (sNone p w hp)
  clear hp
  go_enter Tryz.func9, Tryz.ntmps9
  go_wp2_with fail
  refine HN.out.mono ?_
  rintro e w' ⟨rfl, rfl⟩
  go_wp2_with fail
  go_ret
  exact ⟨rfl, rfl⟩

set_option maxRecDepth 100000 in
set_option maxHeartbeats 400000 in
theorem sSlot (p : Option Addr) (w : World) (hp : NoSt w p) :
    Calls Tryz.prog 10 #[.pointer p] w fun e w' => e = .returned (.int .i64 0) ∧ w = w' := by
  have HN := Lib.hid (sNone p w hp)
  clear hp
  go_enter Tryz.func10, Tryz.ntmps10
  go_wp2_with fail
  refine HN.out.mono ?_
  rintro e w' ⟨rfl, rfl⟩
  go_wp2_with fail
  go_ret
  exact ⟨rfl, rfl⟩

theorem noSt_keep {w W : World} {p : Option Addr} (h : NoSt w p) (hg : Chg Non w W) : NoSt W p := by
  rcases p with _ | ⟨b, o, s⟩
  · trivial
  · exact ⟨h.1, hg.cell_some h.2 (fun e => e)⟩

set_option maxRecDepth 100000 in
set_option maxHeartbeats 1000000 in
theorem sVerify (p : Option Addr) (A : Option Addr) (n c : Nat) (M : Array Value) (w : World) (hp : NoSt w p) :
    Calls Tryz.prog 5 #[.pointer p, .slice A n c, .agg M] w fun e w' => e = .returned (.tuple #[.agg manZ, .int .i64 1]) ∧ Chg Non w w' := by
  have HN := Lib.hid (fun W (hg : Chg Non w W) => sBytes p W (noSt_keep hp hg))
  clear hp
  go_enter Tryz.func5, Tryz.ntmps5
  go_wp2_with fail
  refine (HN.out _ (((Chg.refl Non w).alloc _).alloc _)).mono ?_
  rintro e w' ⟨rfl, rfl⟩
  have hz : ∀ o : Obj, ((w.alloc o).alloc (.cells Tryz.zeroCells31 31)).heap[w.heap.size + 1]? = some (.cells Tryz.zeroCells31 31 (0, 0)) := fun o => heap_alloc2_new _ _ _
  have HZ := Lib.hid hz
  clear hz
  go_wp2_with (first
    | (refine sel (some 17) (.build 31 #[]) ?_
       refine wpList_pureW (some 17) (.agg manZ) rfl (by kernel_rfl) (by kernel_rfl) ?_)
    | (refine sel none (.store 31 (.tmp 6) (.tmp 17)) ?_
       refine wpList_store_rowA rfl 31 (.tmp 6) (.tmp 17) rfl (w.heap.size + 1) manZ rfl rfl 31 _ (HZ.out _) (by rw [manZ_size]; exact info_man) (by rw [manZ_size]; kernel_rfl) manZ_one ?_
       intro v1 hg1 hb1
       have HB := Lib.hid hb1
       have HG := Lib.hid ((((Chg.refl Non w).alloc _).alloc _).then_new hg1 (fun x e => by omega))
       clear hg1 hb1))
  refine bodyPost_ret (results_ct Tryz.results5 _ _ (w.heap.size + 1) 31 manZ (0, 0) _ (.int .i64 1) (by kernel_rfl) (by kernel_rfl) HB.out Tryz.underlying31 rfl (by rw [manZ_size]; exact info_man)) (by kernel_rfl) ⟨rfl, HG.out⟩

set_option maxRecDepth 100000 in
set_option maxHeartbeats 1000000 in
theorem sCommit (p : Option Addr) (A : Option Addr) (n c : Nat) (M R : Array Value) (w : World) (hp : NoSt w p) :
    Calls Tryz.prog 6 #[.pointer p, .slice A n c, .agg M, .agg R] w fun e w' => e = .returned (.tuple #[.agg manZ, .agg urecZ, .int .i64 1]) ∧ Chg Non w w' := by
  have HN := Lib.hid (fun W (hg : Chg Non w W) => sNone p W (noSt_keep hp hg))
  clear hp
  go_enter Tryz.func6, Tryz.ntmps6
  go_wp2_with fail
  obtain ⟨zr, hzr⟩ : ∃ z : Array Value, #[Value.int .i64 0, .int .i64 0, .int .i64 0, .bool false, .int .u8 0, .int .u8 0, .int .u8 0, .int .u8 0, .int .u8 0, .int .u8 0, .int .u8 0, .int .u8 0, .int .u8 0, .int .u8 0, .int .u8 0, .int .u8 0, .int .u8 0, .int .u8 0, .int .u8 0, .int .u8 0, .int .u8 0, .int .u8 0, .int .u8 0, .int .u8 0, .int .u8 0, .int .u8 0, .int .u8 0, .int .u8 0, .int .u8 0, .int .u8 0, .int .u8 0, .int .u8 0, .int .u8 0, .int .u8 0, .int .u8 0, .int .u8 0] = z := ⟨_, rfl⟩
  rw [hzr]
  have hzs : zr.size = 36 := by rw [← hzr]; rfl
  clear hzr
  obtain ⟨W4, hW4⟩ : ∃ W4, (((w.alloc (.cells #[.pointer p] 38)).alloc (.cells M 31)).alloc (.cells R 33)) = W4 := ⟨_, rfl⟩
  have hs4 : W4.heap.size = w.heap.size + 1 + 1 + 1 := by rw [← hW4]; simp
  have hg4 : Chg Non w W4 := by rw [← hW4]; exact (((Chg.refl Non w).alloc _).alloc _).alloc _
  rw [hW4, ← hs4]
  have hsz4 := hg4.size
  clear hW4 hs4
  refine (HN.out _ ((hg4.alloc _).alloc _)).mono ?_
  rintro e w' ⟨rfl, rfl⟩
  go_wp2_with (first
    | (refine sel (some 19) (.build 31 #[]) ?_
       refine wpList_pureW (some 19) (.agg manZ) rfl (by kernel_rfl) (by kernel_rfl) ?_)
    | (refine sel (some 20) (.build 33 #[]) ?_
       refine wpList_pureW (some 20) (.agg urecZ) rfl (by kernel_rfl) (by kernel_rfl) ?_)
    | (refine sel none (.store 31 (.tmp 8) (.tmp 19)) ?_
       refine wpList_store_rowA rfl 31 (.tmp 8) (.tmp 19) rfl W4.heap.size manZ rfl rfl 31 _ (heap_alloc2_old _ _ _) (by rw [manZ_size]; exact info_man) (by rw [manZ_size]; kernel_rfl) manZ_one ?_
       intro v1 hg1 hb1
       have HB1 := Lib.hid hb1
       have HZ := Lib.hid ((hg1.block (W4.heap.size + 1) (by simp) (by omega)).trans (heap_alloc2_new _ _ _))
       have HG1 := Lib.hid (((hg4.alloc _).alloc _).then_new hg1 (fun x e => by omega))
       clear hg1 hb1)
    | (refine sel none (.store 33 (.tmp 9) (.tmp 20)) ?_
       refine wpList_store_rowA rfl 33 (.tmp 9) (.tmp 20) rfl (W4.heap.size + 1) urecZ rfl rfl 33 _ HZ.out (by rw [urecZ_size]; exact info_urec) (by rw [urecZ_size]; exact hzs) urecZ_one ?_
       intro v2 hg2 hb2
       have HB2 := Lib.hid hb2
       have HB1' := Lib.hid ((hg2.block W4.heap.size (Array.getElem?_eq_some_iff.1 HB1.out).1 (by omega)).trans HB1.out)
       have HG2 := Lib.hid (HG1.out.then_new hg2 (fun x e => by omega))
       clear hg2 hb2))
  refine bodyPost_ret (results_cct Tryz.results6 _ _ W4.heap.size (W4.heap.size + 1) 31 33 manZ urecZ (0, 0) (0, 0) _ _ (.int .i64 1) (by kernel_rfl) (by kernel_rfl) (by kernel_rfl) HB1'.out HB2.out Tryz.underlying31 rfl (by rw [manZ_size]; exact info_man) Tryz.underlying33 rfl (by rw [urecZ_size]; exact info_urec)) (by kernel_rfl) ⟨rfl, HG2.out⟩

theorem eq_tagZ (w : World) : (binOp .eql 24 (.agg (Array.replicate 32 (.int .u8 0))) (.agg (Array.replicate 32 (.int .u8 0)))).run Tryz.prog w = .ok (.bool true) w := by kernel_rfl
theorem neq_urecZ (w : World) : (binOp .neq 33 (.agg urecZ) (.agg urecZ)).run Tryz.prog w = .ok (.bool false) w := by kernel_rfl

/-- three lists of none -/
def cfgZ : Array Value := #[.slice none 0 0, .slice none 0 0, .slice none 0 0]

set_option maxRecDepth 100000 in
set_option maxHeartbeats 1000000 in
theorem same11 (w : World) :
    Calls Tryz.prog 26 #[.agg cfgZ, .agg cfgZ] w fun e w' => e = .returned (.bool true) ∧ Chg Non w w' := by
  unfold cfgZ
  go_enter Tryz.func26, Tryz.ntmps26
  go_wp2_with fail
  refine wp_loop_rounds 1 ?_
  rw [rounds_succ]
  go_wp2_with fail
  refine wp_loop_rounds 1 ?_
  rw [rounds_succ]
  go_wp2_with fail
  refine wp_loop_rounds 1 ?_
  rw [rounds_succ]
  go_wp2_with fail
  go_ret
  exact ⟨rfl, ((Chg.refl Non w).alloc _).alloc _⟩
theorem row_mid {w : World} {b : Nat} {C : Array Value} {t : TypeId} {fr : Nat × Nat} (h : w.heap[b]? = some (.cells C t fr)) (o n : Nat) (L : List Value) (hL : (C.toList.drop o).take n = L) : w.rangeAt b o L := fun j v hv => by
  rw [cell_of_row _ _ _ _ _ _ h]
  subst hL
  have hj : j < n := by
    have := (List.getElem?_eq_some_iff.1 hv).1
    simp only [List.length_take] at this
    omega
  rw [List.getElem?_take_of_lt hj, List.getElem?_drop] at hv
  simpa using hv
def tagZ : Array Value := Array.replicate 32 (.int .u8 0)
theorem manZ_t1 : (manZ.toList.drop 1).take 32 = tagZ.toList := by kernel_rfl
theorem manZ_t2 : (manZ.toList.drop 37).take 32 = tagZ.toList := by kernel_rfl
theorem manZ_c : (manZ.toList.drop 34).take 3 = cfgZ.toList := by kernel_rfl
theorem manZ_0 : manZ[0]? = some (.int .i64 0) := by kernel_rfl
theorem manZ_33 : manZ[33]? = some (.int .i64 0) := by kernel_rfl
theorem info_tag : (Tryz.prog.info? 24).map (·.size) = some tagZ.size := by kernel_rfl
theorem info_cfg : (Tryz.prog.info? 29).map (·.size) = some cfgZ.size := by kernel_rfl

set_option maxRecDepth 100000 in
set_option maxHeartbeats 1000000 in
theorem same14 (w : World) :
    Calls Tryz.prog 11 #[.agg manZ, .agg manZ] w fun e w' => e = .returned (.bool true) ∧ Chg Non w w' := by
  have HS := Lib.hid same11
  have eT : ∀ W : World, (binOp .eql 24 (.agg tagZ) (.agg tagZ)).run Tryz.prog W = .ok (.bool true) W := eq_tagZ
  have m0 := manZ_0
  have m33 := manZ_33
  go_enter Tryz.func11, Tryz.ntmps11
  go_wp2_with (first
    | (refine sel (some 12) (.load 24 (.tmp 11)) ?_
       refine wpList_loadW (some 12) 24 (.tmp 11) w.heap.size 1 tagZ _ rfl rfl (by kernel_rfl) (by kernel_rfl) (row_mid (heap_alloc2_old _ _ _) 1 32 _ manZ_t1) Tryz.underlying24 rfl info_tag ?_)
    | (refine sel (some 14) (.load 24 (.tmp 13)) ?_
       refine wpList_loadW (some 14) 24 (.tmp 13) (w.heap.size + 1) 1 tagZ _ rfl rfl (by kernel_rfl) (by kernel_rfl) (row_mid (heap_alloc2_new _ _ _) 1 32 _ manZ_t1) Tryz.underlying24 rfl info_tag ?_)
    | (refine sel (some 26) (.load 24 (.tmp 25)) ?_
       refine wpList_loadW (some 26) 24 (.tmp 25) w.heap.size 37 tagZ _ rfl rfl (by kernel_rfl) (by kernel_rfl) (row_mid (heap_alloc2_old _ _ _) 37 32 _ manZ_t2) Tryz.underlying24 rfl info_tag ?_)
    | (refine sel (some 28) (.load 24 (.tmp 27)) ?_
       refine wpList_loadW (some 28) 24 (.tmp 27) (w.heap.size + 1) 37 tagZ _ rfl rfl (by kernel_rfl) (by kernel_rfl) (row_mid (heap_alloc2_new _ _ _) 37 32 _ manZ_t2) Tryz.underlying24 rfl info_tag ?_)
    | (refine sel (some 33) (.load 29 (.tmp 32)) ?_
       refine wpList_loadW (some 33) 29 (.tmp 32) w.heap.size 34 cfgZ _ rfl rfl (by kernel_rfl) (by kernel_rfl) (row_mid (heap_alloc2_old _ _ _) 34 3 _ manZ_c) Tryz.underlying29 rfl info_cfg ?_)
    | (refine sel (some 35) (.load 29 (.tmp 34)) ?_
       refine wpList_loadW (some 35) 29 (.tmp 34) (w.heap.size + 1) 34 cfgZ _ rfl rfl (by kernel_rfl) (by kernel_rfl) (row_mid (heap_alloc2_new _ _ _) 34 3 _ manZ_c) Tryz.underlying29 rfl info_cfg ?_)
    | (go_at_call 26
       refine (HS.out _).mono ?_
       rintro e u ⟨rfl, hg⟩
       have HG := Lib.hid ((((Chg.refl Non w).alloc _).alloc _).then_non hg)
       clear hg))
  go_ret
  exact ⟨rfl, HG.out⟩
end Go.Proofs.YtlpfepniabdpjaaGreat
