/- Walks of package isa: Encode. -/
import Derived.Test.YtpcmnphohneddaaGreatDoorIsa3
import Derived.RegionTactic
import Derived.ChangeAlike
namespace Go.Proofs.YtpcmnphohneddaaGreatDoor
open Go.RowKit
set_option linter.unusedVariables false

/-- four bytes as cells -/
def fourC (p : Nat × Nat × Nat × Nat) : Array Value := #[.int .u8 p.1, .int .u8 p.2.1, .int .u8 p.2.2.1, .int .u8 p.2.2.2]
theorem info_four : (Tryz.prog.info? 41).map (·.size) = some 4 := by kernel_rfl

/-- five cells of a block -/
def Cells5 (w' : World) (b : Nat) (v0 v1 v2 v3 v4 : Value) : Prop :=
  b < w'.heap.size ∧ w'.cell? ⟨b, 0, none⟩ = some v0 ∧ w'.cell? ⟨b, 1, none⟩ = some v1 ∧ w'.cell? ⟨b, 2, none⟩ = some v2 ∧ w'.cell? ⟨b, 3, none⟩ = some v3 ∧ w'.cell? ⟨b, 4, none⟩ = some v4
theorem cells5A (w w' : World) (v0 v1 v2 v3 v4 : Value) (t : TypeId) (hg : Chg Non (w.alloc (.cells #[v0, v1, v2, v3, v4] t)) w') : Cells5 w' w.heap.size v0 v1 v2 v3 v4 := cells5 w w' _ _ _ _ _ _ hg
theorem Cells5.non {w w' : World} {b : Nat} {v0 v1 v2 v3 v4 : Value} (h : Cells5 w b v0 v1 v2 v3 v4) (hg : Chg Non w w') : Cells5 w' b v0 v1 v2 v3 v4 := by
  obtain ⟨hz, c0, c1, c2, c3, c4⟩ := h
  exact ⟨Nat.lt_of_lt_of_le hz hg.size, hg.cell_some c0 (fun e => e), hg.cell_some c1 (fun e => e), hg.cell_some c2 (fun e => e), hg.cell_some c3 (fun e => e), hg.cell_some c4 (fun e => e)⟩

theorem enc_blk {w w' : World} {o o' : Obj} (hg : Chg Non ((w.alloc o).alloc o') w') : w'.heap[w.heap.size + 1]? = some o' :=
  (hg.block _ (by simp) (fun e => e)).trans (by rw [show w.heap.size + 1 = (w.alloc o).heap.size by simp, heap_alloc_new])

set_option maxRecDepth 100000 in
set_option maxHeartbeats 1000000 in
theorem Encode_no (x : Ins) (w : World) (h : mayB x = false) :
    Calls Tryz.prog 34 #[.agg #[.int .u8 x.op, .int .u8 x.a, .int .u8 x.b, .int .u8 x.c, .int .i64 x.n]] w fun e w' => e = .returned (.tuple #[.agg #[.int .u8 0, .int .u8 0, .int .u8 0, .int .u8 0], .int .i64 190]) ∧ Chg Non w w' := by
  have HM := Lib.hid (fun w => May_ok x w)
  rw [h] at HM
  clear h
  obtain ⟨op, a, b, c, n⟩ := x
  go_enter Tryz.func34, Tryz.ntmps34
  go_wp2_with fail
  refine (HM.out _).mono ?_
  rintro e w' ⟨rfl, hg⟩
  have hg1 : Chg Non w w' := (((Chg.refl Non w).alloc _).alloc _).then_non hg
  have HB : Hid (w'.heap[w.heap.size + 1]? = some (.cells #[.int .u8 0, .int .u8 0, .int .u8 0, .int .u8 0] 41 (0, 0))) := Lib.hid ((hg.block _ (by simp) (fun e => e)).trans (by
    rw [show w.heap.size + 1 = (w.alloc (.cells #[.int .u8 op, .int .u8 a, .int .u8 b, .int .u8 c, .int .i64 n] 38)).heap.size by simp, heap_alloc_new]))
  clear hg
  have HG := Lib.hid hg1
  clear hg1
  go_wp2_with (first
    | (refine sel none (.store 41 (.tmp 2) (.tmp 10)) ?_
       refine wpList_store_rowA rfl 41 (.tmp 2) (.tmp 10) rfl (w.heap.size + 1) _ rfl rfl 41 _ HB.out info_four rfl (by kernel_rfl) ?_
       intro W hgW hbW
       have HBW := Lib.hid hbW
       have HGW := Lib.hid hgW
       clear hbW hgW))
  exact bodyPost_ret (results_ct Tryz.results34 _ _ (w.heap.size + 1) 41 _ (0, 0) _ (.int .i64 190) rfl rfl HBW.out Tryz.underlying41 rfl info_four) rfl ⟨rfl, HG.out.then_new HGW.out (fun x e => by omega)⟩

set_option maxRecDepth 100000 in
set_option maxHeartbeats 1000000 in
theorem Encode_ok (x : Ins) (w : World) (h : mayB x = true) :
    Calls Tryz.prog 34 #[.agg #[.int .u8 x.op, .int .u8 x.a, .int .u8 x.b, .int .u8 x.c, .int .i64 x.n]] w fun e w' => e = .returned (.tuple #[.agg (fourC (encI x)), .int .i64 0]) ∧ Chg Non w w' := by
  have HM := Lib.hid (fun w => May_ok x w)
  rw [h] at HM
  have hi := (mayB_iff x).1 h
  have hbd := May.bd h
  clear h
  obtain ⟨op, a, b, c, n⟩ := x
  simp only at hi hbd HM ⊢
  obtain ⟨_, _, _, _, hn0, hn1⟩ := hi
  obtain ⟨bo, ba, bb, bc, _, _⟩ := hbd
  simp only at bo ba bb bc
  obtain ⟨m, rfl⟩ : ∃ m : Nat, n = m := ⟨n.toNat, by omega⟩
  have HO := Lib.hid (fun w => of_any op w)
  have hnn := opAt_n op
  have hE : encI ⟨op, a, b, c, m⟩ = if 255 < (opAt op).n then (op, a, m / 256, m % 256) else if 0 < (opAt op).n then (op, a, b, m) else (op, a, b, c) := by
    unfold encI; simp
  rw [hE]
  clear hE
  obtain ⟨F, hF⟩ : ∃ F, opAt op = F := ⟨_, rfl⟩
  rw [hF] at hn1 HO hnn ⊢
  clear hF
  have hop : opC F = #[.string ⟨F.name.toArray⟩, .bool F.a, .bool F.b, .bool F.c, .int .i64 F.n] := rfl
  rw [hop] at HO
  clear hop
  obtain ⟨s, hs⟩ : ∃ s : ByteArray, (⟨F.name.toArray⟩ : ByteArray) = s := ⟨_, rfl⟩
  rw [hs] at HO
  clear hs
  obtain ⟨fn, hfn⟩ : ∃ fa, F.n = fa := ⟨_, rfl⟩
  rw [hfn] at hn1 HO hnn ⊢
  clear hfn
  by_cases hw : 255 < fn
  · have e1 : decide ((fn : Int) > 255) = true := by simp; omega
    rw [if_pos hw]
    go_enter Tryz.func34, Tryz.ntmps34
    go_wp2_with fail
    refine (HM.out _).mono ?_
    rintro e w' ⟨rfl, hg⟩
    have HC := Lib.hid (cells5A w w' _ _ _ _ _ _ (((Chg.refl Non _).alloc _).then_non hg))
    obtain ⟨hz, c0, c1, c2, c3, c4⟩ := HC.out
    have HG : Hid (Chg Non w w') := Lib.hid ((((Chg.refl Non w).alloc _).alloc _).then_non hg)
    have HB := Lib.hid (enc_blk hg)
    clear hg
    go_wp2_with fail
    refine (HO.out _).mono ?_
    rintro e w2 ⟨rfl, hg⟩
    clear hz c0 c1 c2 c3 c4
    obtain ⟨hz, c0, c1, c2, c3, c4⟩ := HC.out.non hg
    have HG2 := Lib.hid (HG.out.then_non hg)
    have HB2 := Lib.hid (blockN hg HB.out)
    clear hg
    go_wp2_with fail
    go_region
    go_wp2_with (first
      | (refine sel none (.store 41 (.tmp 2) (.tmp 49)) ?_
         refine wpList_store_rowA rfl 41 (.tmp 2) (.tmp 49) rfl (w.heap.size + 1) #[.int .u8 op, .int .u8 a, .int .u8 ((m : Int) / 256), .int .u8 ((m : Int) % 256)] rfl rfl 41 _ (blockN ((((Chg.refl Non _).alloc _).alloc _).drew) HB2.out) info_four rfl (by simp [Value.oneCell']) ?_
         intro W hgW hbW
         have HBW := Lib.hid hbW
         have HGW := Lib.hid hgW
         clear hbW hgW))
    exact bodyPost_ret (results_ct Tryz.results34 _ _ (w.heap.size + 1) 41 _ (0, 0) _ (.int .i64 0) rfl rfl HBW.out Tryz.underlying41 rfl info_four) rfl ⟨by simp [fourC], ((((HG2.out).alloc _).alloc _).drew).then_new HGW.out (fun x e => by omega)⟩
  · have e1 : decide ((fn : Int) > 255) = false := by simp; omega
    rw [if_neg hw]
    by_cases hs : 0 < fn
    · have e2 : decide ((fn : Int) > 0) = true := by simp; omega
      rw [if_pos hs]
      go_enter Tryz.func34, Tryz.ntmps34
      go_wp2_with fail
      refine (HM.out _).mono ?_
      rintro e w' ⟨rfl, hg⟩
      have HC := Lib.hid (cells5A w w' _ _ _ _ _ _ (((Chg.refl Non _).alloc _).then_non hg))
      obtain ⟨hz, c0, c1, c2, c3, c4⟩ := HC.out
      have HG : Hid (Chg Non w w') := Lib.hid ((((Chg.refl Non w).alloc _).alloc _).then_non hg)
      have HB := Lib.hid (enc_blk hg)
      clear hg
      go_wp2_with fail
      refine (HO.out _).mono ?_
      rintro e w2 ⟨rfl, hg⟩
      clear hz c0 c1 c2 c3 c4
      obtain ⟨hz, c0, c1, c2, c3, c4⟩ := HC.out.non hg
      have HG2 := Lib.hid (HG.out.then_non hg)
      have HB2 := Lib.hid (blockN hg HB.out)
      clear hg
      go_wp2_with (first
        | (refine sel none (.store 41 (.tmp 2) (.tmp 49)) ?_
           refine wpList_store_rowA rfl 41 (.tmp 2) (.tmp 49) rfl (w.heap.size + 1) #[.int .u8 op, .int .u8 a, .int .u8 b, .int .u8 m] rfl rfl 41 _ (blockN (((Chg.refl Non _).alloc _).alloc _) HB2.out) info_four rfl (by simp [Value.oneCell']) ?_
           intro W hgW hbW
           have HBW := Lib.hid hbW
           have HGW := Lib.hid hgW
           clear hbW hgW))
      exact bodyPost_ret (results_ct Tryz.results34 _ _ (w.heap.size + 1) 41 _ (0, 0) _ (.int .i64 0) rfl rfl HBW.out Tryz.underlying41 rfl info_four) rfl ⟨by simp [fourC], (((HG2.out).alloc _).alloc _).then_new HGW.out (fun x e => by omega)⟩
    · have e2 : decide ((fn : Int) > 0) = false := by simp; omega
      rw [if_neg hs]
      go_enter Tryz.func34, Tryz.ntmps34
      go_wp2_with fail
      refine (HM.out _).mono ?_
      rintro e w' ⟨rfl, hg⟩
      have HC := Lib.hid (cells5A w w' _ _ _ _ _ _ (((Chg.refl Non _).alloc _).then_non hg))
      obtain ⟨hz, c0, c1, c2, c3, c4⟩ := HC.out
      have HG : Hid (Chg Non w w') := Lib.hid ((((Chg.refl Non w).alloc _).alloc _).then_non hg)
      have HB := Lib.hid (enc_blk hg)
      clear hg
      go_wp2_with fail
      refine (HO.out _).mono ?_
      rintro e w2 ⟨rfl, hg⟩
      clear hz c0 c1 c2 c3 c4
      obtain ⟨hz, c0, c1, c2, c3, c4⟩ := HC.out.non hg
      have HG2 := Lib.hid (HG.out.then_non hg)
      have HB2 := Lib.hid (blockN hg HB.out)
      clear hg
      go_wp2_with (first
        | (refine sel none (.store 41 (.tmp 2) (.tmp 49)) ?_
           refine wpList_store_rowA rfl 41 (.tmp 2) (.tmp 49) rfl (w.heap.size + 1) #[.int .u8 op, .int .u8 a, .int .u8 b, .int .u8 c] rfl rfl 41 _ (blockN (((Chg.refl Non _).alloc _).alloc _) HB2.out) info_four rfl (by simp [Value.oneCell']) ?_
           intro W hgW hbW
           have HBW := Lib.hid hbW
           have HGW := Lib.hid hgW
           clear hbW hgW))
      exact bodyPost_ret (results_ct Tryz.results34 _ _ (w.heap.size + 1) 41 _ (0, 0) _ (.int .i64 0) rfl rfl HBW.out Tryz.underlying41 rfl info_four) rfl ⟨by simp [fourC], (((HG2.out).alloc _).alloc _).then_new HGW.out (fun x e => by omega)⟩
end Go.Proofs.YtpcmnphohneddaaGreatDoor
