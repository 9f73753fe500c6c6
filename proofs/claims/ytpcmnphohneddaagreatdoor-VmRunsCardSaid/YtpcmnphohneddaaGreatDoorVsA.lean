/- The document's answer of layer 20 (citadelref20): Step, the beginning of all ways. (Written by wip/gen_vog.py.) -/
import Derived.Test.YtpcmnphohneddaaGreatDoorVoC
namespace Go.Proofs.YtpcmnphohneddaaGreatDoor
open Go.RowKit
set_option linter.unusedVariables false

/-- the document's names -/
def docNames : Array Value := ((opRows.map (·.name)).map mkStr).toArray
set_option maxRecDepth 100000 in
set_option maxHeartbeats 4000000 in
theorem rNam_ok (w : World) :
    Calls Tryz.prog 26 #[] w fun e w' => e = .returned (.slice (some ⟨w.heap.size, 0, none⟩) 22 22) ∧ w.alloc (.cells docNames 9) = w' := by
  go_enter Tryz.func26, Tryz.ntmps26
  go_wp2
  go_ret
  exact ⟨rfl, by kernel_rfl⟩
/-- the code behind n steps of a sequence -/
def tailO : Nat → Option Code → Option Code
  | 0, o => o
  | n + 1, o => match o with
    | some (.seq _ x) => tailO n (some x)
    | _ => none
theorem rest_of {P : Program} {o : Option Code} {cd c : Code} {Q : Exit → Act → World → Prop} {a : Act} {w : World} (h : o = some cd) (hc : o = some c) (hw : c.wp P Q a w) : cd.wp P Q a w := by
  rw [h] at hc
  injection hc with hc
  subst hc
  exact hw
/-- the slots where the name is known -/
def slots12 (y : Nat → Value) (wb b ob : Nat) (N : List UInt8) : Array Value := #[y 0, .pointer (some ⟨wb, 0, none⟩), .pointer (some ⟨wb + 1, 0, none⟩), y 3, y 4, .pointer (some ⟨b, 0, none⟩), y 6, y 7, .pointer (some ⟨ob, 0, none⟩), y 9, .string ⟨N.toArray⟩, undef, undef, undef, undef, undef, undef, undef, undef, undef, undef, undef, undef, undef, undef, undef, y 26, y 27, y 28, y 29, y 30, y 31, y 32, y 33, y 34, y 35, y 36, y 37, y 38, y 39, y 40, y 41, y 42, y 43, y 44, y 45, y 46, y 47, y 48, y 49, y 50, y 51, y 52, y 53, y 54, y 55, y 56, y 57, y 58, y 59, y 60, y 61, y 62, y 63, y 64, y 65, y 66, y 67, y 68, y 69, y 70, undef, undef, undef, undef, undef, undef, undef, undef, undef, undef, undef, undef, undef, undef, undef, undef, undef, undef, undef, undef, undef, undef, undef, undef, undef, undef, undef, undef, undef, undef, undef, undef, undef, undef, undef, undef, undef, undef, undef, undef, undef, undef, undef, undef, undef, undef, undef, undef, undef, undef, undef, undef, undef, undef, undef, undef, undef, undef, undef, undef, undef, undef, undef, undef, undef, undef, undef, undef, undef, undef, undef, undef, undef, undef, undef, undef, undef, undef, undef, undef, undef, undef, undef, undef, undef, undef, undef, undef, undef, undef, undef, undef, undef, undef, undef, undef, undef, undef, undef, undef, undef, undef, undef, undef, undef, undef, undef, undef, undef, undef, undef, undef, undef, undef, undef, undef, undef, undef, undef, undef, undef, undef, undef, undef, undef, undef, undef, undef, undef, undef, undef, undef, undef, undef, undef, undef, undef, undef, undef, undef, undef, undef, undef, undef, undef, undef, undef, undef, undef, undef, undef, undef, undef, undef, undef, undef, undef, undef, undef, undef, undef, undef, undef, undef, undef, undef, undef, undef, undef, undef, undef, undef, undef, undef, undef, undef, undef, undef, undef, undef, undef, undef, undef, undef, undef, undef, undef, undef, undef, undef, undef, undef, undef, undef, undef, undef, undef, undef, undef, undef, undef, undef, undef, undef, undef, undef, undef, undef, undef, undef, undef, undef, undef, undef, undef, undef, undef, undef, undef, undef, undef, undef, undef, undef, undef, undef, undef, undef, undef, undef, undef, undef, undef, undef, undef, undef, undef, undef, undef, undef, undef, undef, undef, undef, undef, undef, undef, undef, undef, undef, undef, undef, undef, undef, undef, undef, undef, undef, undef, undef, undef, undef, undef, undef, undef, undef, undef, undef, undef, undef, undef, undef, undef, undef, undef, undef, undef, undef, undef, undef, undef, undef, undef, undef, undef, undef, undef, undef]
/-- the slots where the instruction's own work begins -/
def slots16 (y : Nat → Value) (wb b ob rb rc : Nat) (N : List UInt8) : Array Value := #[y 0, .pointer (some ⟨wb, 0, none⟩), .pointer (some ⟨wb + 1, 0, none⟩), y 3, y 4, .pointer (some ⟨b, 0, none⟩), y 6, y 7, .pointer (some ⟨ob, 0, none⟩), y 9, .string ⟨N.toArray⟩, .int .u64 rb, .int .u64 rc, undef, undef, undef, undef, undef, undef, undef, undef, undef, undef, undef, undef, undef, y 26, y 27, y 28, y 29, y 30, y 31, y 32, y 33, y 34, y 35, y 36, y 37, y 38, y 39, y 40, y 41, y 42, y 43, y 44, y 45, y 46, y 47, y 48, y 49, y 50, y 51, y 52, y 53, y 54, y 55, y 56, y 57, y 58, y 59, y 60, y 61, y 62, y 63, y 64, y 65, y 66, y 67, y 68, y 69, y 70, y 71, y 72, y 73, y 74, y 75, y 76, y 77, y 78, y 79, y 80, y 81, y 82, y 83, y 84, y 85, y 86, y 87, y 88, y 89, y 90, y 91, y 92, y 93, y 94, y 95, y 96, y 97, y 98, y 99, y 100, y 101, y 102, y 103, y 104, y 105, y 106, y 107, y 108, y 109, y 110, y 111, y 112, y 113, undef, undef, undef, undef, undef, undef, undef, undef, undef, undef, undef, undef, undef, undef, undef, undef, undef, undef, undef, undef, undef, undef, undef, undef, undef, undef, undef, undef, undef, undef, undef, undef, undef, undef, undef, undef, undef, undef, undef, undef, undef, undef, undef, undef, undef, undef, undef, undef, undef, undef, undef, undef, undef, undef, undef, undef, undef, undef, undef, undef, undef, undef, undef, undef, undef, undef, undef, undef, undef, undef, undef, undef, undef, undef, undef, undef, undef, undef, undef, undef, undef, undef, undef, undef, undef, undef, undef, undef, undef, undef, undef, undef, undef, undef, undef, undef, undef, undef, undef, undef, undef, undef, undef, undef, undef, undef, undef, undef, undef, undef, undef, undef, undef, undef, undef, undef, undef, undef, undef, undef, undef, undef, undef, undef, undef, undef, undef, undef, undef, undef, undef, undef, undef, undef, undef, undef, undef, undef, undef, undef, undef, undef, undef, undef, undef, undef, undef, undef, undef, undef, undef, undef, undef, undef, undef, undef, undef, undef, undef, undef, undef, undef, undef, undef, undef, undef, undef, undef, undef, undef, undef, undef, undef, undef, undef, undef, undef, undef, undef, undef, undef, undef, undef, undef, undef, undef, undef, undef, undef, undef, undef, undef, undef, undef, undef, undef, undef, undef, undef, undef, undef, undef, undef, undef, undef, undef, undef, undef, undef, undef, undef, undef, undef, undef, undef, undef, undef, undef, undef, undef, undef, undef, undef, undef, undef, undef, undef, undef, undef, undef, undef, undef, undef, undef, undef, undef, undef, undef, undef, undef, undef, undef, undef, undef, undef]
/-- what is known where the name is known -/
structure At12 (w v : World) (b ob : Nat) (p : Pt) (A : Option Addr) (c op a b2 cc n : Nat) : Prop where
  st : StR w v b p A c
  x : v.heap[ob]? = some (.cells #[.int .u8 op, .int .u8 a, .int .u8 b2, .int .u8 cc, .int .i64 (n : Nat)] 58 (0, 0))
  lt : b < ob
theorem docNames_get (k : Nat) (h : k ≤ 21) : docNames[k]? = some (.string ⟨(opAt k).name.toArray⟩) := by
  have h' : k = 0 ∨ k = 1 ∨ k = 2 ∨ k = 3 ∨ k = 4 ∨ k = 5 ∨ k = 6 ∨ k = 7 ∨ k = 8 ∨ k = 9 ∨ k = 10 ∨ k = 11 ∨ k = 12 ∨ k = 13 ∨ k = 14 ∨ k = 15 ∨ k = 16 ∨ k = 17 ∨ k = 18 ∨ k = 19 ∨ k = 20 ∨ k = 21 := by omega
  rcases h' with rfl | rfl | rfl | rfl | rfl | rfl | rfl | rfl | rfl | rfl | rfl | rfl | rfl | rfl | rfl | rfl | rfl | rfl | rfl | rfl | rfl | rfl <;> rfl
theorem high_or (x n : Nat) (hn : n < 65536) : x * 65536 % 4294967296 + n = (x * 65536 % 4294967296) ||| n := by
  rw [nat_join 16 _ _ (by omega) (by omega)]
set_option maxRecDepth 100000 in
set_option maxHeartbeats 8000000 in
theorem rHead (p : Pt) (A : Option Addr) (c : Nat) (w : World) (hb : p.Bd) (hr : Rd w A p.mem) (hl : p.mem.length ≤ 1000000) (hs : p.st = 0) (ht : there p.mem p.pc 4 = true) (f0 f1 f2 f3 : UInt8) (hcut : cut p.mem p.pc 4 = [f0, f1, f2, f3]) (op a b2 cc n : Nat) (hd : decI f0.toNat f1.toNat f2.toNat f3.toNat = ⟨op, a, b2, cc, (n : Nat)⟩) (hm : mayB ⟨op, a, b2, cc, (n : Nat)⟩ = true) (R : Ending → World → Prop)
    (hrest : ∀ cd, tailO 8 Tryz.f10.body = some cd → ∀ T b ob A2 c2 v, T = slots12 (fun i => T.getD i undef) w.heap.size b ob (opAt op).name → At12 w v b ob p A2 c2 op a b2 cc n → cd.wp Tryz.prog (bodyPost Tryz.prog Tryz.f10 R) ⟨T, []⟩ v) :
    Calls Tryz.prog 10 #[.agg (partC p (.slice A p.mem.length c))] w R := by
  have HRest := Lib.hid hrest
  clear hrest
  have HT := Lib.hid ht
  have HM := Lib.hid hm
  have HDc := Lib.hid hd
  have hx1 := may_bd hm
  have ho22 : op < 22 := hx1.1
  have ha8 : a < 8 := hx1.2.1
  have hb8 : b2 < 8 := hx1.2.2.1
  have hc8 : cc < 8 := hx1.2.2.2.1
  have hn16 : n < 65536 := hx1.2.2.2.2
  have HF4 : Hid (Four (f0.toNat, f1.toNat, f2.toNat, f3.toNat)) := Lib.hid ⟨f0.toNat_lt, f1.toNat_lt, f2.toNat_lt, f3.toNat_lt⟩
  clear ht hm hd hx1
  have h8 := hb.r8
  have HBd := Lib.hid hb
  obtain ⟨C, hC⟩ : ∃ C, partC p (.slice A p.mem.length c) = C := ⟨_, rfl⟩
  have hsz : C.size = 14 := by rw [← hC]; exact partC_size h8 _
  have hcp := fun W hrW => rCopied_ok p A p.mem c W h8 hrW hl
  rw [hC] at hcp ⊢
  have HCp := Lib.hid hcp
  have HR := Lib.hid hr
  clear hcp hC hr hb
  go_enter Tryz.func10, Tryz.ntmps10
  go_wp2_with (first
    | (refine sel (some 26) (.load _ (.tmp 1)) ?_; refine Vm_stop ?_))
  refine HoleV.mk ?_
  refine wpList_load_row rfl 26 (.tmp 1) rfl w.heap.size rfl 26 C (0, 0) _ (al_2_0 w _ _) Tryz.underlying26 rfl (by rw [hsz]; exact info_part) ?_
  go_wp2_with fail
  refine (HCp.out _ (HR.out.non (((Chg.refl Non w).alloc _).alloc _))).mono ?_
  rintro e w1 ⟨A2, c2, rfl, q1, q2, q3, q4⟩
  have HBy := Lib.hid (blockN q4 (al_2_1 w (.cells C 26) (.cells zeroPart 26)))
  have hlo : ∀ b' o', A2 = some ⟨b', o', none⟩ → p.mem ≠ [] → b' ≠ w1.heap.size := fun b' o' e1 e2 => Nat.ne_of_lt (rd_lt q3.rd b' o' e1 e2)
  have HLo := Lib.hid hlo
  have HO := Lib.hid (q3.mono (show w.heap.size + 2 ≤ _ by simp))
  have HG := Lib.hid ((((Chg.refl Non w).alloc _).alloc _).then_non q4)
  have hge : w.heap.size + 2 ≤ w1.heap.size := by have := q4.size; simpa using this
  clear q3 q4 hlo
  go_wp2_with (first
    | (refine sel none (.store _ (.tmp 5) (.tmp 27)) ?_; refine Vm_stop ?_))
  refine HoleV.mk ?_
  refine wpList_store_rowA rfl 26 (.tmp 5) (.tmp 27) rfl w1.heap.size (partC p (.slice A2 p.mem.length c2)) rfl rfl 26 zeroPart (heap_alloc_new w1 _) (by rw [partC_size h8]; exact info_part) (by rw [partC_size h8]; rfl) (partC_one _ _ rfl) ?_
  intro w2 hg2 hb2
  have hgn : Chg Non w1 w2 := ((Chg.refl Non w1).alloc (.cells zeroPart 26)).then_new hg2 (fun x e => by omega)
  have hst0 : StR w w2 w1.heap.size p A2 c2 := ⟨⟨hb2, h8⟩, blockN hgn HBy.out, HO.out.non hgn, HLo.out, HG.out.then_non hgn, hge, q1, q2⟩
  obtain ⟨b, hbb⟩ : ∃ b, w1.heap.size = b := ⟨_, rfl⟩
  rw [hbb] at hst0 ⊢
  have HS := Lib.hid hst0
  have c12 := hst0.pb.cells.2.2.2.2.1
  clear hg2 hb2 hst0 hgn hbb hge
  have c12' : w2.cell? ⟨b, 12, none⟩ = some (.int .u8 0) := by rw [hs] at c12; exact c12
  have c11 := HS.out.pb.cells.2.2.2.1
  have c13 := HS.out.pb.cells.2.2.2.2.2
  have hwp : IntKind.i64.wrap (p.pc : Int) = p.pc := Go.IntWalk.i64_in _ (by have := HBd.out.pcb; omega)
  clear c12 hs
  go_wp2_with fail
  have hrd := rRead_yes A2 p.mem c2 p.pc 4 w2 HS.out.own.rd (by omega) (by omega) HT.out
  rw [hcut] at hrd
  refine hrd.mono ?_
  rintro e y1 ⟨A3, c3, rfl, k1, k2, k3, k4⟩
  obtain ⟨b3, o3, rfl, _, hc3⟩ := k3.rd.at_ (by simp)
  have d0 := hc3 0 (by simp)
  have d1 := hc3 1 (by simp)
  have d2 := hc3 2 (by simp)
  have d3 := hc3 3 (by simp)
  simp only [Nat.add_zero, List.getElem_cons_zero, List.getElem_cons_succ] at d0 d1 d2 d3
  have HS := Lib.hid (HS.out.non k4)
  clear hc3 k3 k4 hrd c12' c11 c13
  go_wp2_with fail
  apply wp_cutB (α := Nat) (f := fun ob x => (((((((((((((((((((x.put (some 46) (.slice (some ⟨b3, o3, none⟩) 4 c3)).put (some 47) (.pointer (some ⟨b3, o3, none⟩))).put (some 48) (.int .u8 f0.toNat)).put (some 49) (.slice (some ⟨b3, o3, none⟩) 4 c3)).put (some 50) (.pointer (some ⟨b3, o3 + 1, none⟩))).put (some 51) (.int .u8 f1.toNat)).put (some 52) (.slice (some ⟨b3, o3, none⟩) 4 c3)).put (some 53) (.pointer (some ⟨b3, o3 + 2, none⟩))).put (some 54) (.int .u8 f2.toNat)).put (some 55) (.slice (some ⟨b3, o3, none⟩) 4 c3)).put (some 56) (.pointer (some ⟨b3, o3 + 3, none⟩))).put (some 57) (.int .u8 f3.toNat)).put (some 58) (.agg #[.int .u8 f0.toNat, .int .u8 f1.toNat, .int .u8 f2.toNat, .int .u8 f3.toNat])).put (some 59) (.tuple #[.agg #[.int .u8 op, .int .u8 a, .int .u8 b2, .int .u8 cc, .int .i64 (n : Nat)], .int .i64 0])).put (some 45) (.tuple #[.agg #[.int .u8 op, .int .u8 a, .int .u8 b2, .int .u8 cc, .int .i64 (n : Nat)], .int .i64 0])).put (some 60) (.agg #[.int .u8 op, .int .u8 a, .int .u8 b2, .int .u8 cc, .int .i64 (n : Nat)])).put (some 61) (.int .i64 0)).put (some 8) (.pointer (some ⟨ob, 0, none⟩))).put (some 9) (.int .i64 0))) (R := fun ob v => v.heap[ob]? = some (.cells #[.int .u8 op, .int .u8 a, .int .u8 b2, .int .u8 cc, .int .i64 (n : Nat)] 58 (0, 0)) ∧ Chg Non y1 v ∧ y1.heap.size ≤ ob)
  · refine wp_region_held_drew (S := fun W => Chg Non y1 W) (by kernel_rfl) ((Chg.refl Non _).drew) (fun hHeld => ?_)
    clear hHeld
    refine h_pure 0 (some 46) (.slice (some ⟨b3, o3, none⟩) 4 c3) rfl (by kernel_rfl) (by kernel_rfl) (by kernel_rfl) (by kernel_rfl) (fun _ _ _ h => absurd h.1 (by simp)) (by kernel_rfl) (fun W hW => by go_simp) ((Chg.refl Non _).drew) ?_
    simp only [Act.put, List.setIfInBounds_toArray, List.set_cons_zero, List.set_cons_succ]
    refine h_pure 1 (some 47) (.pointer (some ⟨b3, o3, none⟩)) rfl (by kernel_rfl) (by kernel_rfl) (by kernel_rfl) (by kernel_rfl) (fun _ _ _ h => absurd h.1 (by simp)) (by kernel_rfl) (fun W hW => by go_simp) ((Chg.refl Non _).drew) ?_
    simp only [Act.put, List.setIfInBounds_toArray, List.set_cons_zero, List.set_cons_succ]
    refine h_pure 2 (some 48) (.int .u8 f0.toNat) rfl (by kernel_rfl) (by kernel_rfl) (by kernel_rfl) (by kernel_rfl) (fun _ _ _ h => absurd h.1 (by simp)) (by kernel_rfl) (fun W hW => by have hq := hW.cell_some d0 (fun e => e); go_simp) ((Chg.refl Non _).drew) ?_
    simp only [Act.put, List.setIfInBounds_toArray, List.set_cons_zero, List.set_cons_succ]
    refine h_pure 3 (some 49) (.slice (some ⟨b3, o3, none⟩) 4 c3) rfl (by kernel_rfl) (by kernel_rfl) (by kernel_rfl) (by kernel_rfl) (fun _ _ _ h => absurd h.1 (by simp)) (by kernel_rfl) (fun W hW => by go_simp) ((Chg.refl Non _).drew) ?_
    simp only [Act.put, List.setIfInBounds_toArray, List.set_cons_zero, List.set_cons_succ]
    refine h_pure 4 (some 50) (.pointer (some ⟨b3, o3 + 1, none⟩)) rfl (by kernel_rfl) (by kernel_rfl) (by kernel_rfl) (by kernel_rfl) (fun _ _ _ h => absurd h.1 (by simp)) (by kernel_rfl) (fun W hW => by go_simp) ((Chg.refl Non _).drew) ?_
    simp only [Act.put, List.setIfInBounds_toArray, List.set_cons_zero, List.set_cons_succ]
    refine h_pure 5 (some 51) (.int .u8 f1.toNat) rfl (by kernel_rfl) (by kernel_rfl) (by kernel_rfl) (by kernel_rfl) (fun _ _ _ h => absurd h.1 (by simp)) (by kernel_rfl) (fun W hW => by have hq := hW.cell_some d1 (fun e => e); go_simp) ((Chg.refl Non _).drew) ?_
    simp only [Act.put, List.setIfInBounds_toArray, List.set_cons_zero, List.set_cons_succ]
    refine h_pure 6 (some 52) (.slice (some ⟨b3, o3, none⟩) 4 c3) rfl (by kernel_rfl) (by kernel_rfl) (by kernel_rfl) (by kernel_rfl) (fun _ _ _ h => absurd h.1 (by simp)) (by kernel_rfl) (fun W hW => by go_simp) ((Chg.refl Non _).drew) ?_
    simp only [Act.put, List.setIfInBounds_toArray, List.set_cons_zero, List.set_cons_succ]
    refine h_pure 7 (some 53) (.pointer (some ⟨b3, o3 + 2, none⟩)) rfl (by kernel_rfl) (by kernel_rfl) (by kernel_rfl) (by kernel_rfl) (fun _ _ _ h => absurd h.1 (by simp)) (by kernel_rfl) (fun W hW => by go_simp) ((Chg.refl Non _).drew) ?_
    simp only [Act.put, List.setIfInBounds_toArray, List.set_cons_zero, List.set_cons_succ]
    refine h_pure 8 (some 54) (.int .u8 f2.toNat) rfl (by kernel_rfl) (by kernel_rfl) (by kernel_rfl) (by kernel_rfl) (fun _ _ _ h => absurd h.1 (by simp)) (by kernel_rfl) (fun W hW => by have hq := hW.cell_some d2 (fun e => e); go_simp) ((Chg.refl Non _).drew) ?_
    simp only [Act.put, List.setIfInBounds_toArray, List.set_cons_zero, List.set_cons_succ]
    refine h_pure 9 (some 55) (.slice (some ⟨b3, o3, none⟩) 4 c3) rfl (by kernel_rfl) (by kernel_rfl) (by kernel_rfl) (by kernel_rfl) (fun _ _ _ h => absurd h.1 (by simp)) (by kernel_rfl) (fun W hW => by go_simp) ((Chg.refl Non _).drew) ?_
    simp only [Act.put, List.setIfInBounds_toArray, List.set_cons_zero, List.set_cons_succ]
    refine h_pure 10 (some 56) (.pointer (some ⟨b3, o3 + 3, none⟩)) rfl (by kernel_rfl) (by kernel_rfl) (by kernel_rfl) (by kernel_rfl) (fun _ _ _ h => absurd h.1 (by simp)) (by kernel_rfl) (fun W hW => by go_simp) ((Chg.refl Non _).drew) ?_
    simp only [Act.put, List.setIfInBounds_toArray, List.set_cons_zero, List.set_cons_succ]
    refine h_pure 11 (some 57) (.int .u8 f3.toNat) rfl (by kernel_rfl) (by kernel_rfl) (by kernel_rfl) (by kernel_rfl) (fun _ _ _ h => absurd h.1 (by simp)) (by kernel_rfl) (fun W hW => by have hq := hW.cell_some d3 (fun e => e); go_simp) ((Chg.refl Non _).drew) ?_
    simp only [Act.put, List.setIfInBounds_toArray, List.set_cons_zero, List.set_cons_succ]
    refine h_pure 12 (some 58) (.agg #[.int .u8 f0.toNat, .int .u8 f1.toNat, .int .u8 f2.toNat, .int .u8 f3.toNat]) rfl (by kernel_rfl) (by kernel_rfl) (by kernel_rfl) (by kernel_rfl) (fun _ _ _ h => absurd h.1 (by simp)) (by kernel_rfl) (fun W hW => by go_simp) ((Chg.refl Non _).drew) ?_
    simp only [Act.put, List.setIfInBounds_toArray, List.set_cons_zero, List.set_cons_succ]
    refine h_two 13 17 (by kernel_rfl) rfl rfl (by kernel_rfl) (by kernel_rfl) ?_ ?_
    · intro K hK
      go_simp
      refine (rDec_v f0.toNat f1.toNat f2.toNat f3.toNat op a b2 cc n _ HF4.out HDc.out HM.out).mono ?_
      rintro e u1 ⟨rfl, hg1⟩
      have HU1 := Lib.hid (((Chg.refl Non y1).drew).then_non hg1)
      have hsz := HU1.out.size
      clear hg1
      refine hK.out _ _ HU1.out (fun _ => ?_)
      clear hK K
      refine h_pure 14 (some 45) (.tuple #[.agg #[.int .u8 op, .int .u8 a, .int .u8 b2, .int .u8 cc, .int .i64 (n : Nat)], .int .i64 0]) rfl (by kernel_rfl) (by kernel_rfl) (by kernel_rfl) (by kernel_rfl) (fun _ _ _ h => absurd h.1 (by simp)) (by kernel_rfl) (fun W hW => by go_simp) HU1.out ?_
      simp only [Act.put, List.setIfInBounds_toArray, List.set_cons_zero, List.set_cons_succ]
      refine h_pure 15 (some 60) (.agg #[.int .u8 op, .int .u8 a, .int .u8 b2, .int .u8 cc, .int .i64 (n : Nat)]) rfl (by kernel_rfl) (by kernel_rfl) (by kernel_rfl) (by kernel_rfl) (fun _ _ _ h => absurd h.1 (by simp)) (by kernel_rfl) (fun W hW => by go_simp) HU1.out ?_
      simp only [Act.put, List.setIfInBounds_toArray, List.set_cons_zero, List.set_cons_succ]
      refine h_pure 16 (some 61) (.int .i64 0) rfl (by kernel_rfl) (by kernel_rfl) (by kernel_rfl) (by kernel_rfl) (fun _ _ _ h => absurd h.1 (by simp)) (by kernel_rfl) (fun W hW => by go_simp) HU1.out ?_
      simp only [Act.put, List.setIfInBounds_toArray, List.set_cons_zero, List.set_cons_succ]
      refine h_one 17 (by kernel_rfl) rfl (by kernel_rfl) ?_
      intro K hK
      go_simp
      refine hK.out _ _ (HU1.out.alloc _) (fun _ => ?_)
      clear hK K
      refine h_store 18 58 (.tmp 8) (.tmp 60) u1.heap.size #[.int .u8 op, .int .u8 a, .int .u8 b2, .int .u8 cc, .int .i64 (n : Nat)] (by kernel_rfl) rfl (by kernel_rfl) rfl rfl rfl rfl 58 ⟨#[.int .u8 0, .int .u8 0, .int .u8 0, .int .u8 0, .int .i64 0], heap_alloc_new _ _, rfl⟩ (by kernel_rfl) (by simp [Value.oneCell']) (fun W hg hb => (HU1.out.alloc _).then_new hg (fun x e => by have := e; omega)) ?_
      intro W hgW hbW
      refine h_pure 19 (some 9) (.int .i64 0) rfl (by kernel_rfl) (by kernel_rfl) (by kernel_rfl) (by kernel_rfl) (fun _ _ _ h => absurd h.1 (by simp)) (by kernel_rfl) (fun W hW => by go_simp) ((HU1.out.alloc _).then_new hgW (fun x e => by have := e; omega)) ?_
      simp only [Act.put, List.setIfInBounds_toArray, List.set_cons_zero, List.set_cons_succ]
      refine wpAnyH_done (by kernel_rfl) ?_ _
      exact ⟨rfl, u1.heap.size, by kernel_rfl, hbW, (HU1.out.alloc _).then_new hgW (fun x e => by have := e; omega), by omega⟩
    · intro K hK
      go_simp
      refine hK.out _ _ (((Chg.refl Non _).drew).alloc _) (fun _ => ?_)
      clear hK K
      refine h_one 13 (by kernel_rfl) rfl (by kernel_rfl) ?_
      intro K hK
      go_simp
      refine (rDec_v f0.toNat f1.toNat f2.toNat f3.toNat op a b2 cc n _ HF4.out HDc.out HM.out).mono ?_
      rintro e u1 ⟨rfl, hg1⟩
      have HU1 := Lib.hid ((((Chg.refl Non y1).drew).alloc _).then_non hg1)
      have HB1 := Lib.hid (blockN hg1 (heap_alloc_new y1.drew _))
      have hyd : y1.drew.heap.size = y1.heap.size := rfl
      clear hg1
      refine hK.out _ _ HU1.out (fun _ => ?_)
      clear hK K
      refine h_pure 14 (some 45) (.tuple #[.agg #[.int .u8 op, .int .u8 a, .int .u8 b2, .int .u8 cc, .int .i64 (n : Nat)], .int .i64 0]) rfl (by kernel_rfl) (by kernel_rfl) (by kernel_rfl) (by kernel_rfl) (fun _ _ _ h => absurd h.1 (by simp)) (by kernel_rfl) (fun W hW => by go_simp) HU1.out ?_
      simp only [Act.put, List.setIfInBounds_toArray, List.set_cons_zero, List.set_cons_succ]
      refine h_pure 15 (some 60) (.agg #[.int .u8 op, .int .u8 a, .int .u8 b2, .int .u8 cc, .int .i64 (n : Nat)]) rfl (by kernel_rfl) (by kernel_rfl) (by kernel_rfl) (by kernel_rfl) (fun _ _ _ h => absurd h.1 (by simp)) (by kernel_rfl) (fun W hW => by go_simp) HU1.out ?_
      simp only [Act.put, List.setIfInBounds_toArray, List.set_cons_zero, List.set_cons_succ]
      refine h_pure 16 (some 61) (.int .i64 0) rfl (by kernel_rfl) (by kernel_rfl) (by kernel_rfl) (by kernel_rfl) (fun _ _ _ h => absurd h.1 (by simp)) (by kernel_rfl) (fun W hW => by go_simp) HU1.out ?_
      simp only [Act.put, List.setIfInBounds_toArray, List.set_cons_zero, List.set_cons_succ]
      refine h_store 18 58 (.tmp 8) (.tmp 60) y1.heap.size #[.int .u8 op, .int .u8 a, .int .u8 b2, .int .u8 cc, .int .i64 (n : Nat)] (by kernel_rfl) rfl (by kernel_rfl) rfl rfl rfl rfl 58 ⟨#[.int .u8 0, .int .u8 0, .int .u8 0, .int .u8 0, .int .i64 0], HB1.out, rfl⟩ (by kernel_rfl) (by simp [Value.oneCell']) (fun W hg hb => HU1.out.then_new hg (fun x e => by have := e; omega)) ?_
      intro W hgW hbW
      refine h_pure 19 (some 9) (.int .i64 0) rfl (by kernel_rfl) (by kernel_rfl) (by kernel_rfl) (by kernel_rfl) (fun _ _ _ h => absurd h.1 (by simp)) (by kernel_rfl) (fun W hW => by go_simp) (HU1.out.then_new hgW (fun x e => by have := e; omega)) ?_
      simp only [Act.put, List.setIfInBounds_toArray, List.set_cons_zero, List.set_cons_succ]
      refine wpAnyH_done (by kernel_rfl) ?_ _
      exact ⟨rfl, y1.heap.size, by kernel_rfl, hbW, HU1.out.then_new hgW (fun x e => by have := e; omega), by omega⟩
  rintro ob u ⟨hob, hgu, hle⟩
  simp only [Act.put, List.setIfInBounds_toArray, List.set_cons_zero, List.set_cons_succ]
  have HS3 := Lib.hid (HS.out.non hgu)
  have hobb : b < ob := by have := HS.out.pb.lt; omega
  clear d0 d1 d2 d3
  have HX3 := Lib.hid hob
  obtain ⟨⟨z, o0, o1x, o2x, o3x, o4x⟩, _⟩ := (Blk5.mk hob).all
  have hopi : (op : Int) < 22 := by omega
  clear z o1x o2x o3x o4x hob hgu
  have hdk := docNames_get op (by omega)
  have hnam := fun W => rNam_ok W
  obtain ⟨N, hN⟩ : ∃ N, (opAt op).name = N := ⟨_, rfl⟩
  rw [hN] at hdk HRest
  obtain ⟨DN, hDN⟩ : ∃ DN, docNames = DN := ⟨_, rfl⟩
  rw [hDN] at hdk hnam
  have HNam := Lib.hid hnam
  clear hN hDN hnam
  go_wp2_with fail
  refine wp_region_held_drew (S := fun W => Chg Non u W) (by kernel_rfl) ((Chg.refl Non _).drew) (fun hHeld => ?_)
  clear hHeld
  refine h_pure 1 (some 67) (.pointer (some ⟨ob, 0, none⟩)) rfl (by kernel_rfl) (by kernel_rfl) (by kernel_rfl) (by kernel_rfl) (fun _ _ _ h => h) (by kernel_rfl) (fun W hW => by go_simp) ((Chg.refl Non _).drew) ?_
  simp only [Act.put, List.setIfInBounds_toArray, List.set_cons_zero, List.set_cons_succ]
  refine h_pure 2 (some 68) (.int .u8 op) rfl (by kernel_rfl) (by kernel_rfl) (by kernel_rfl) (by kernel_rfl) (fun _ _ _ h => h) (by kernel_rfl) (fun W hW => by have hq := hW.cell_some o0 (fun e => e); go_simp) ((Chg.refl Non _).drew) ?_
  simp only [Act.put, List.setIfInBounds_toArray, List.set_cons_zero, List.set_cons_succ]
  refine h_one 0 (by kernel_rfl) rfl (by kernel_rfl) ?_
  intro K hK
  go_simp
  refine (HNam.out _).mono ?_
  rintro e v1 ⟨rfl, rfl⟩
  refine hK.out _ _ (((Chg.refl Non _).drew).alloc _) (fun _ => ?_)
  clear hK K
  refine h_one 3 (by kernel_rfl) rfl (by kernel_rfl) ?_
  intro K hK
  go_simp
  refine hK.out _ _ (((Chg.refl Non _).drew).alloc _) (fun _ => ?_)
  clear hK K
  refine h_one 4 (by kernel_rfl) rfl (by kernel_rfl) ?_
  intro K hK
  go_simp
  refine hK.out _ _ (((Chg.refl Non _).drew).alloc _) (fun _ => ?_)
  clear hK K
  refine h_one 5 (by kernel_rfl) rfl (by kernel_rfl) ?_
  intro K hK
  go_simp
  refine hK.out _ _ (((Chg.refl Non _).drew).alloc _) (fun _ => ?_)
  clear hK K
  refine wpAnyH_done (by kernel_rfl) ?_ _
  have hgv : Chg Non u (u.alloc (.cells DN 9)).drew := ((Chg.refl Non _).drew).alloc _
  have HS4 := Lib.hid (HS3.out.non hgv)
  have HX4 := Lib.hid (blockN hgv HX3.out)
  clear hgv o0 HX3 hdk
  generalize (u.alloc (.cells DN 9)).drew = v at HS4 HX4 ⊢
  go_step
  go_step
  exact HRest.out _ rfl _ b ob A2 c2 v (by kernel_rfl) ⟨HS4.out, HX4.out, hobb⟩
end Go.Proofs.YtpcmnphohneddaaGreatDoor
