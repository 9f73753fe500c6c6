/- KernelTime, part 11 of 28: contracts of the functions that it reaches, and the laws that they need, merged and shortened (from my texts XVmJ, XVmK, XVmL). -/
import Derived.Test.YtmnaleaghfbclaaGreatDoorMgKernelTimeA
import Derived.Test.YtmnaleaghfbclaaGreatDoorMgKernelTimeJ
namespace Go.Proofs.YtmnaleaghfbclaaGreatDoor
set_option linter.unusedVariables false
set_option linter.unusedSimpArgs false
set_option maxHeartbeats 8000000
section
open Go.RowKit
theorem num32_go (b : List UInt8) : ∀ x, b.foldl (fun x c => 256 * x + c.toNat) x < (x + 1) * 256 ^ b.length := by
 induction b with
 | nil => intro x; simp
 | cons c r ih =>
  intro x
  have h := ih (256 * x + c.toNat)
  have hc := c.toNat_lt
  rw [List.foldl_cons, List.length_cons, Nat.pow_succ]
  refine Nat.lt_of_lt_of_le h ?_
  rw [Nat.mul_comm (256 ^ r.length) 256, ← Nat.mul_assoc]
  exact Nat.mul_le_mul_right _ (by omega)
theorem num32_lt (b : List UInt8) (h : b.length ≤ 4) : num32 b < 4294967296 := by
 have h1 := num32_go b 0
 have h2 : 256 ^ b.length ≤ 256 ^ 4 := Nat.pow_le_pow_right (by decide) h
 unfold num32
 omega
set_option maxRecDepth 100000 in
theorem loadByte_yes (b : Nat) (p : Pt) (A : Option Addr) (l : List UInt8) (cl : Nat) (op a b2 c n r : Nat) (w : World) (hp : PartB w b p (.slice A l.length cl)) (hr : Rd w A l) (hlc : l.length ≤ cl) (hcm : cl ≤ maxLen) (ha : a < 8) (hb2 : b2 < 8) (hn : n < 65536) (hrg : p.g b2 = r) (hrb : r < 4294967296) (ht : there l (r + n) 1 = true) (x : UInt8) (hx : cut l (r + n) 1 = [x]) :
  Calls Tryz.prog 243 #[.pointer (some ⟨b, 0, none⟩), .agg #[.int .u8 op, .int .u8 a, .int .u8 b2, .int .u8 c, .int .i64 n]] w fun e w' => e = .returned (.bool true) ∧ PartB w' b (p.set a (x.toNat)) (.slice A l.length cl) ∧ Chg (fun k => k = b) w w' := by
 have hai : (a : Int) < 8 := by omega
 have hlt0 := hp.lt
 have HP := Lib.hid hp
 have HP1 : Hid (PartB (w.alloc (.cells #[.int .u8 op, .int .u8 a, .int .u8 b2, .int .u8 c, .int .i64 n] 143)) b p (.slice A l.length cl)) := Lib.hid (hp.non ((Chg.refl Non w).alloc _))
 have HR := Lib.hid (hr.non ((Chg.refl Non w).alloc (.cells #[.int .u8 op, .int .u8 a, .int .u8 b2, .int .u8 c, .int .i64 n] 143)))
 have HX := Lib.hid (heap_alloc_new w (.cells #[.int .u8 op, .int .u8 a, .int .u8 b2, .int .u8 c, .int .i64 n] 143))
 have HT := Lib.hid ht
 clear hp hr ht
 obtain ⟨v, hv⟩ : ∃ v, x.toNat = v := ⟨_, rfl⟩
 have hvb : v < 256 := by rw [← hv]; exact x.toNat_lt
 have HV := Lib.hid hv
 rw [hv]
 have HXx := Lib.hid hx
 clear hv hx
 go_enter Tryz.func243, Tryz.ntmps243
 go_wp2_with fail
 refine wp_region_held_drew (S := fun v => Chg Non (w.alloc (.cells #[.int .u8 op, .int .u8 a, .int .u8 b2, .int .u8 c, .int .i64 n] 143)) v) (by kernel_rfl) ((Chg.refl Non _).drew) (fun hHeld => ?_)
 clear hHeld
 refine hp 0 8 (.pointer (some ⟨b, 0, none⟩)) rfl ((Chg.refl _ _).drew) ?_
 refine hp 1 9 (.pointer (some ⟨b, 0, none⟩)) rfl ((Chg.refl _ _).drew) ?_
 refine hp 2 10 (.pointer (some ⟨b, 13, none⟩)) rfl ((Chg.refl _ _).drew) ?_
 refine hp 3 11 (.slice A l.length cl) rfl ((Chg.refl _ _).drew) ?_ (he := (fun w e => by have hq := (HP1.out.non e).cells.2.2.2.2.2; go_simp))
 refine hp 4 12 (.pointer (some ⟨b, 0, none⟩)) rfl ((Chg.refl _ _).drew) ?_
 refine h_load 5 (some 13) 143 (.tmp 3) w.heap.size 0 #[.int .u8 op, .int .u8 a, .int .u8 b2, .int .u8 c, .int .i64 n] _ rfl (by kernel_rfl) (by kernel_rfl) (by kernel_rfl) (by kernel_rfl) (by kernel_rfl) (fun _ _ _ h => h) (by kernel_rfl) (by kernel_rfl) (fun w h => row_range (blockN h HX.out)) Tryz.underlying143 rfl info_ins ((Chg.refl _ _).drew) ?_
 simp only [Act.put, sA, sB, sC]
 refine h_one 6 (by kernel_rfl) rfl (by kernel_rfl) ?_
 intro K hK
 go_simp
 refine (address_ok b p _ op a b2 c n _ (HP1.out.non ((Chg.refl Non _).drew)) hb2 r hrg hn hrb).mono ?_
 rintro e y1 ⟨rfl, hg1⟩
 have HY1 := Lib.hid (((Chg.refl Non _).drew).then_non hg1)
 clear hg1
 refine hK.out _ _ HY1.out (fun _ => ?_)
 clear hK K
 refine h_one 7 (by kernel_rfl) rfl (by kernel_rfl) ?_
 intro K hK
 go_simp
 have hl := Load_yes A l cl (r + n) x _ (HR.out.non HY1.out) hlc hcm HT.out HXx.out
 rw [HV.out] at hl
 refine hl.mono ?_
 rintro e y2 ⟨rfl, rfl⟩
 refine hK.out _ _ HY1.out (fun _ => ?_)
 clear hK K
 refine hp 8 7 (.tuple #[.int .u8 v, .int .i64 0]) rfl HY1.out ?_
 refine hp 9 16 (.int .u8 v) rfl HY1.out ?_
 refine hp 10 17 (.int .i64 0) rfl HY1.out ?_
 refine hp 11 5 (.int .u8 v) rfl HY1.out ?_
 refine hp 12 6 (.int .i64 0) rfl HY1.out ?_
 refine wpAnyH_done (by kernel_rfl) ?_ _
 have hg : Chg Non (w.alloc (.cells #[.int .u8 op, .int .u8 a, .int .u8 b2, .int .u8 c, .int .i64 n] 143)) y1.drew := HY1.out.drew
 have hp2 := HP1.out.non hg
 obtain ⟨⟨z, c0, c1, c2, c3, c4⟩, _⟩ := (Blk5.mk (blockN hg HX.out)).all
 go_wp2_with fail
 refine wp_region_still_tail 8 (by kernel_rfl) (by kernel_rfl) ?_
 simp only [List.take_succ_cons, List.take_zero, List.drop_succ_cons, List.drop_zero]
 change wpStill _ _ y1.drew (fun a' => wpList _ _ _ _ a' y1.drew) _ _
 generalize y1.drew = w2 at hg hp2 z c0 c1 c2 c3 c4 ⊢
 have HP2 := Lib.hid hp2
 have HG2 := Lib.hid (((Chg.refl Non w).alloc _).then_non hg)
 have hlt := hp2.lt
 have hf := hp2.frozen (3 + a)
 have hca := hp2.reg a ha
 have hwv : IntKind.u32.wrap (v : Int) = v := Go.IntWalk.u32_in _ (by omega)
 clear hp2 hg
 repeat still_step
 refine wpStill_nil ?_
 go_wp2_with fail
 go_ret
 exact ⟨rfl, HP2.out.setReg a v ha, HG2.out.non_then (setAt w2 b (3 + a) _)⟩
set_option maxRecDepth 100000 in
theorem loadByte_no (b : Nat) (p : Pt) (A : Option Addr) (l : List UInt8) (cl : Nat) (op a b2 c n r : Nat) (w : World) (hp : PartB w b p (.slice A l.length cl)) (hr : Rd w A l) (hlc : l.length ≤ cl) (hcm : cl ≤ maxLen) (ha : a < 8) (hb2 : b2 < 8) (hn : n < 65536) (hrg : p.g b2 = r) (hrb : r < 4294967296) (ht : there l (r + n) 1 = false) :
  Calls Tryz.prog 243 #[.pointer (some ⟨b, 0, none⟩), .agg #[.int .u8 op, .int .u8 a, .int .u8 b2, .int .u8 c, .int .i64 n]] w fun e w' => e = .returned (.bool false) ∧ PartB w' b p (.slice A l.length cl) ∧ Chg Non w w' := by
 have hai : (a : Int) < 8 := by omega
 have hlt0 := hp.lt
 have HP := Lib.hid hp
 have HP1 : Hid (PartB (w.alloc (.cells #[.int .u8 op, .int .u8 a, .int .u8 b2, .int .u8 c, .int .i64 n] 143)) b p (.slice A l.length cl)) := Lib.hid (hp.non ((Chg.refl Non w).alloc _))
 have HR := Lib.hid (hr.non ((Chg.refl Non w).alloc (.cells #[.int .u8 op, .int .u8 a, .int .u8 b2, .int .u8 c, .int .i64 n] 143)))
 have HX := Lib.hid (heap_alloc_new w (.cells #[.int .u8 op, .int .u8 a, .int .u8 b2, .int .u8 c, .int .i64 n] 143))
 have HT := Lib.hid ht
 clear hp hr ht
 go_enter Tryz.func243, Tryz.ntmps243
 go_wp2_with fail
 refine wp_region_held_drew (S := fun v => Chg Non (w.alloc (.cells #[.int .u8 op, .int .u8 a, .int .u8 b2, .int .u8 c, .int .i64 n] 143)) v) (by kernel_rfl) ((Chg.refl Non _).drew) (fun hHeld => ?_)
 clear hHeld
 refine hp 0 8 (.pointer (some ⟨b, 0, none⟩)) rfl ((Chg.refl _ _).drew) ?_
 refine hp 1 9 (.pointer (some ⟨b, 0, none⟩)) rfl ((Chg.refl _ _).drew) ?_
 refine hp 2 10 (.pointer (some ⟨b, 13, none⟩)) rfl ((Chg.refl _ _).drew) ?_
 refine hp 3 11 (.slice A l.length cl) rfl ((Chg.refl _ _).drew) ?_ (he := (fun w e => by have hq := (HP1.out.non e).cells.2.2.2.2.2; go_simp))
 refine hp 4 12 (.pointer (some ⟨b, 0, none⟩)) rfl ((Chg.refl _ _).drew) ?_
 refine h_load 5 (some 13) 143 (.tmp 3) w.heap.size 0 #[.int .u8 op, .int .u8 a, .int .u8 b2, .int .u8 c, .int .i64 n] _ rfl (by kernel_rfl) (by kernel_rfl) (by kernel_rfl) (by kernel_rfl) (by kernel_rfl) (fun _ _ _ h => h) (by kernel_rfl) (by kernel_rfl) (fun w h => row_range (blockN h HX.out)) Tryz.underlying143 rfl info_ins ((Chg.refl _ _).drew) ?_
 simp only [Act.put, sA, sB, sC]
 refine h_one 6 (by kernel_rfl) rfl (by kernel_rfl) ?_
 intro K hK
 go_simp
 refine (address_ok b p _ op a b2 c n _ (HP1.out.non ((Chg.refl Non _).drew)) hb2 r hrg hn hrb).mono ?_
 rintro e y1 ⟨rfl, hg1⟩
 have HY1 := Lib.hid (((Chg.refl Non _).drew).then_non hg1)
 clear hg1
 refine hK.out _ _ HY1.out (fun _ => ?_)
 clear hK K
 refine h_one 7 (by kernel_rfl) rfl (by kernel_rfl) ?_
 intro K hK
 go_simp
 refine (Load_no A l cl (r + n) _ (by omega) HT.out).mono ?_
 rintro e y2 ⟨er, her, rfl, rfl⟩
 refine hK.out _ _ HY1.out (fun _ => ?_)
 clear hK K
 refine hp 8 7 (.tuple #[.int .u8 0, .int .i64 er]) rfl HY1.out ?_
 refine hp 9 16 (.int .u8 0) rfl HY1.out ?_
 refine hp 10 17 (.int .i64 er) rfl HY1.out ?_
 refine hp 11 5 (.int .u8 0) rfl HY1.out ?_
 refine hp 12 6 (.int .i64 er) rfl HY1.out ?_
 refine wpAnyH_done (by kernel_rfl) ?_ _
 go_wp2_with fail
 go_ret
 exact ⟨rfl, HP1.out.non HY1.out, ((Chg.refl Non w).alloc _).then_non HY1.out⟩
set_option maxRecDepth 100000 in
theorem loadWord_yes (b : Nat) (p : Pt) (A : Option Addr) (l : List UInt8) (cl : Nat) (op a b2 c n r : Nat) (w : World) (hp : PartB w b p (.slice A l.length cl)) (hr : Rd w A l) (hlc : l.length ≤ cl) (hcm : cl ≤ maxLen) (ha : a < 8) (hb2 : b2 < 8) (hn : n < 65536) (hrg : p.g b2 = r) (hrb : r < 4294967296) (ht : there l (r + n) 4 = true) :
  Calls Tryz.prog 245 #[.pointer (some ⟨b, 0, none⟩), .agg #[.int .u8 op, .int .u8 a, .int .u8 b2, .int .u8 c, .int .i64 n]] w fun e w' => e = .returned (.bool true) ∧ PartB w' b (p.set a (num32 (cut l (r + n) 4))) (.slice A l.length cl) ∧ Chg (fun k => k = b) w w' := by
 have hai : (a : Int) < 8 := by omega
 have hlt0 := hp.lt
 have HP := Lib.hid hp
 have HP1 : Hid (PartB (w.alloc (.cells #[.int .u8 op, .int .u8 a, .int .u8 b2, .int .u8 c, .int .i64 n] 143)) b p (.slice A l.length cl)) := Lib.hid (hp.non ((Chg.refl Non w).alloc _))
 have HR := Lib.hid (hr.non ((Chg.refl Non w).alloc (.cells #[.int .u8 op, .int .u8 a, .int .u8 b2, .int .u8 c, .int .i64 n] 143)))
 have HX := Lib.hid (heap_alloc_new w (.cells #[.int .u8 op, .int .u8 a, .int .u8 b2, .int .u8 c, .int .i64 n] 143))
 have HT := Lib.hid ht
 clear hp hr ht
 obtain ⟨v, hv⟩ : ∃ v, num32 (cut l (r + n) 4) = v := ⟨_, rfl⟩
 rw [hv]
 have HV := Lib.hid hv
 have hvb : v < 4294967296 := by rw [← hv]; exact num32_lt _ (by unfold cut; rw [List.length_take]; omega)
 clear hv
 go_enter Tryz.func245, Tryz.ntmps245
 go_wp2_with fail
 refine wp_region_held_drew (S := fun v => Chg Non (w.alloc (.cells #[.int .u8 op, .int .u8 a, .int .u8 b2, .int .u8 c, .int .i64 n] 143)) v) (by kernel_rfl) ((Chg.refl Non _).drew) (fun hHeld => ?_)
 clear hHeld
 refine hp 0 8 (.pointer (some ⟨b, 0, none⟩)) rfl ((Chg.refl _ _).drew) ?_
 refine hp 1 9 (.pointer (some ⟨b, 0, none⟩)) rfl ((Chg.refl _ _).drew) ?_
 refine hp 2 10 (.pointer (some ⟨b, 13, none⟩)) rfl ((Chg.refl _ _).drew) ?_
 refine hp 3 11 (.slice A l.length cl) rfl ((Chg.refl _ _).drew) ?_ (he := (fun w e => by have hq := (HP1.out.non e).cells.2.2.2.2.2; go_simp))
 refine hp 4 12 (.pointer (some ⟨b, 0, none⟩)) rfl ((Chg.refl _ _).drew) ?_
 refine h_load 5 (some 13) 143 (.tmp 3) w.heap.size 0 #[.int .u8 op, .int .u8 a, .int .u8 b2, .int .u8 c, .int .i64 n] _ rfl (by kernel_rfl) (by kernel_rfl) (by kernel_rfl) (by kernel_rfl) (by kernel_rfl) (fun _ _ _ h => h) (by kernel_rfl) (by kernel_rfl) (fun w h => row_range (blockN h HX.out)) Tryz.underlying143 rfl info_ins ((Chg.refl _ _).drew) ?_
 simp only [Act.put, sA, sB, sC]
 refine h_one 6 (by kernel_rfl) rfl (by kernel_rfl) ?_
 intro K hK
 go_simp
 refine (address_ok b p _ op a b2 c n _ (HP1.out.non ((Chg.refl Non _).drew)) hb2 r hrg hn hrb).mono ?_
 rintro e y1 ⟨rfl, hg1⟩
 have HY1 := Lib.hid (((Chg.refl Non _).drew).then_non hg1)
 clear hg1
 refine hK.out _ _ HY1.out (fun _ => ?_)
 clear hK K
 refine h_one 7 (by kernel_rfl) rfl (by kernel_rfl) ?_
 intro K hK
 go_simp
 have hl := Load32_yes A l cl (r + n) _ (HR.out.non HY1.out) hlc hcm HT.out
 rw [HV.out] at hl
 refine hl.mono ?_
 rintro e y2 ⟨rfl, hg2⟩
 have HY1 := Lib.hid (HY1.out.then_non hg2)
 clear hg2
 refine hK.out _ _ HY1.out (fun _ => ?_)
 clear hK K
 refine hp 8 7 (.tuple #[.int .u32 v, .int .i64 0]) rfl HY1.out ?_
 refine hp 9 16 (.int .u32 v) rfl HY1.out ?_
 refine hp 10 17 (.int .i64 0) rfl HY1.out ?_
 refine hp 11 5 (.int .u32 v) rfl HY1.out ?_
 refine hp 12 6 (.int .i64 0) rfl HY1.out ?_
 refine wpAnyH_done (by kernel_rfl) ?_ _
 have hg : Chg Non (w.alloc (.cells #[.int .u8 op, .int .u8 a, .int .u8 b2, .int .u8 c, .int .i64 n] 143)) y2.drew := HY1.out.drew
 have hp2 := HP1.out.non hg
 obtain ⟨⟨z, c0, c1, c2, c3, c4⟩, _⟩ := (Blk5.mk (blockN hg HX.out)).all
 go_wp2_with fail
 refine wp_region_still_tail 7 (by kernel_rfl) (by kernel_rfl) ?_
 simp only [List.take_succ_cons, List.take_zero, List.drop_succ_cons, List.drop_zero]
 change wpStill _ _ y2.drew (fun a' => wpList _ _ _ _ a' y2.drew) _ _
 generalize y2.drew = w2 at hg hp2 z c0 c1 c2 c3 c4 ⊢
 have HP2 := Lib.hid hp2
 have HG2 := Lib.hid (((Chg.refl Non w).alloc _).then_non hg)
 have hlt := hp2.lt
 have hf := hp2.frozen (3 + a)
 have hca := hp2.reg a ha
 have hwv : IntKind.u32.wrap (v : Int) = v := Go.IntWalk.u32_in _ (by omega)
 clear hp2 hg
 repeat still_step
 refine wpStill_nil ?_
 go_wp2_with fail
 go_ret
 exact ⟨rfl, HP2.out.setReg a v ha, HG2.out.non_then (setAt w2 b (3 + a) _)⟩
set_option maxRecDepth 100000 in
theorem loadWord_no (b : Nat) (p : Pt) (A : Option Addr) (l : List UInt8) (cl : Nat) (op a b2 c n r : Nat) (w : World) (hp : PartB w b p (.slice A l.length cl)) (hr : Rd w A l) (hlc : l.length ≤ cl) (hcm : cl ≤ maxLen) (ha : a < 8) (hb2 : b2 < 8) (hn : n < 65536) (hrg : p.g b2 = r) (hrb : r < 4294967296) (ht : there l (r + n) 4 = false) :
  Calls Tryz.prog 245 #[.pointer (some ⟨b, 0, none⟩), .agg #[.int .u8 op, .int .u8 a, .int .u8 b2, .int .u8 c, .int .i64 n]] w fun e w' => e = .returned (.bool false) ∧ PartB w' b p (.slice A l.length cl) ∧ Chg Non w w' := by
 have hai : (a : Int) < 8 := by omega
 have hlt0 := hp.lt
 have HP := Lib.hid hp
 have HP1 : Hid (PartB (w.alloc (.cells #[.int .u8 op, .int .u8 a, .int .u8 b2, .int .u8 c, .int .i64 n] 143)) b p (.slice A l.length cl)) := Lib.hid (hp.non ((Chg.refl Non w).alloc _))
 have HR := Lib.hid (hr.non ((Chg.refl Non w).alloc (.cells #[.int .u8 op, .int .u8 a, .int .u8 b2, .int .u8 c, .int .i64 n] 143)))
 have HX := Lib.hid (heap_alloc_new w (.cells #[.int .u8 op, .int .u8 a, .int .u8 b2, .int .u8 c, .int .i64 n] 143))
 have HT := Lib.hid ht
 clear hp hr ht
 go_enter Tryz.func245, Tryz.ntmps245
 go_wp2_with fail
 refine wp_region_held_drew (S := fun v => Chg Non (w.alloc (.cells #[.int .u8 op, .int .u8 a, .int .u8 b2, .int .u8 c, .int .i64 n] 143)) v) (by kernel_rfl) ((Chg.refl Non _).drew) (fun hHeld => ?_)
 clear hHeld
 refine hp 0 8 (.pointer (some ⟨b, 0, none⟩)) rfl ((Chg.refl _ _).drew) ?_
 refine hp 1 9 (.pointer (some ⟨b, 0, none⟩)) rfl ((Chg.refl _ _).drew) ?_
 refine hp 2 10 (.pointer (some ⟨b, 13, none⟩)) rfl ((Chg.refl _ _).drew) ?_
 refine hp 3 11 (.slice A l.length cl) rfl ((Chg.refl _ _).drew) ?_ (he := (fun w e => by have hq := (HP1.out.non e).cells.2.2.2.2.2; go_simp))
 refine hp 4 12 (.pointer (some ⟨b, 0, none⟩)) rfl ((Chg.refl _ _).drew) ?_
 refine h_load 5 (some 13) 143 (.tmp 3) w.heap.size 0 #[.int .u8 op, .int .u8 a, .int .u8 b2, .int .u8 c, .int .i64 n] _ rfl (by kernel_rfl) (by kernel_rfl) (by kernel_rfl) (by kernel_rfl) (by kernel_rfl) (fun _ _ _ h => h) (by kernel_rfl) (by kernel_rfl) (fun w h => row_range (blockN h HX.out)) Tryz.underlying143 rfl info_ins ((Chg.refl _ _).drew) ?_
 simp only [Act.put, sA, sB, sC]
 refine h_one 6 (by kernel_rfl) rfl (by kernel_rfl) ?_
 intro K hK
 go_simp
 refine (address_ok b p _ op a b2 c n _ (HP1.out.non ((Chg.refl Non _).drew)) hb2 r hrg hn hrb).mono ?_
 rintro e y1 ⟨rfl, hg1⟩
 have HY1 := Lib.hid (((Chg.refl Non _).drew).then_non hg1)
 clear hg1
 refine hK.out _ _ HY1.out (fun _ => ?_)
 clear hK K
 refine h_one 7 (by kernel_rfl) rfl (by kernel_rfl) ?_
 intro K hK
 go_simp
 refine (Load32_no A l cl (r + n) _ (by omega) HT.out).mono ?_
 rintro e y2 ⟨er, her, rfl, rfl⟩
 refine hK.out _ _ HY1.out (fun _ => ?_)
 clear hK K
 refine hp 8 7 (.tuple #[.int .u32 0, .int .i64 er]) rfl HY1.out ?_
 refine hp 9 16 (.int .u32 0) rfl HY1.out ?_
 refine hp 10 17 (.int .i64 er) rfl HY1.out ?_
 refine hp 11 5 (.int .u32 0) rfl HY1.out ?_
 refine hp 12 6 (.int .i64 er) rfl HY1.out ?_
 refine wpAnyH_done (by kernel_rfl) ?_ _
 go_wp2_with fail
 go_ret
 exact ⟨rfl, HP1.out.non HY1.out, ((Chg.refl Non w).alloc _).then_non HY1.out⟩
set_option maxRecDepth 100000 in
theorem storeByte_yes (b : Nat) (p : Pt) (A : Option Addr) (l : List UInt8) (cl : Nat) (op a b2 c n r : Nat) (w : World) (hp : PartB w b p (.slice A l.length cl)) (hr : Rd w A l) (hlc : l.length ≤ cl) (hcm : cl ≤ maxLen) (ha : a < 8) (hb2 : b2 < 8) (hn : n < 65536) (hrg : p.g b2 = r) (hrb : r < 4294967296) (ra : Nat) (hra : p.g a = ra) (hrab : ra < 4294967296) (ht : there l (r + n) 1 = true) :
  Calls Tryz.prog 244 #[.pointer (some ⟨b, 0, none⟩), .agg #[.int .u8 op, .int .u8 a, .int .u8 b2, .int .u8 c, .int .i64 n]] w fun e w' => ∃ A2 c2, e = .returned (.bool true) ∧ PartB w' b p (.slice A2 l.length c2) ∧ l.length ≤ c2 ∧ c2 ≤ maxLen ∧ Own w.heap.size w' A2 (put l (r + n) ([UInt8.ofNat ra])) ∧ Chg (fun k => k = b) w w' := by
 have hai : (a : Int) < 8 := by omega
 have hlt0 := hp.lt
 have HP := Lib.hid hp
 have HP1 : Hid (PartB (w.alloc (.cells #[.int .u8 op, .int .u8 a, .int .u8 b2, .int .u8 c, .int .i64 n] 143)) b p (.slice A l.length cl)) := Lib.hid (hp.non ((Chg.refl Non w).alloc _))
 have HR := Lib.hid (hr.non ((Chg.refl Non w).alloc (.cells #[.int .u8 op, .int .u8 a, .int .u8 b2, .int .u8 c, .int .i64 n] 143)))
 have HX := Lib.hid (heap_alloc_new w (.cells #[.int .u8 op, .int .u8 a, .int .u8 b2, .int .u8 c, .int .i64 n] 143))
 have HT := Lib.hid ht
 obtain ⟨rb, hrb8⟩ : ∃ rb, ra % 256 = rb := ⟨_, rfl⟩
 have hrb256 : rb < 256 := by omega
 have hofb : UInt8.ofNat rb = UInt8.ofNat ra := by rw [← hrb8]; apply UInt8.toNat_inj.1; simp
 have HOb := Lib.hid hofb
 clear hofb
 clear hp hr ht
 go_enter Tryz.func244, Tryz.ntmps244
 go_wp2_with fail
 refine wp_region_held_drew (S := fun v => Chg Non (w.alloc (.cells #[.int .u8 op, .int .u8 a, .int .u8 b2, .int .u8 c, .int .i64 n] 143)) v) (by kernel_rfl) ((Chg.refl Non _).drew) (fun hHeld => ?_)
 clear hHeld
 refine hp 0 8 (.pointer (some ⟨b, 0, none⟩)) rfl ((Chg.refl _ _).drew) ?_
 refine hp 1 9 (.pointer (some ⟨b, 0, none⟩)) rfl ((Chg.refl _ _).drew) ?_
 refine hp 2 10 (.pointer (some ⟨b, 13, none⟩)) rfl ((Chg.refl _ _).drew) ?_
 refine hp 3 11 (.slice A l.length cl) rfl ((Chg.refl _ _).drew) ?_ (he := (fun w e => by have hq := (HP1.out.non e).cells.2.2.2.2.2; go_simp))
 refine hp 4 12 (.pointer (some ⟨b, 0, none⟩)) rfl ((Chg.refl _ _).drew) ?_
 refine h_load 5 (some 13) 143 (.tmp 3) w.heap.size 0 #[.int .u8 op, .int .u8 a, .int .u8 b2, .int .u8 c, .int .i64 n] _ rfl (by kernel_rfl) (by kernel_rfl) (by kernel_rfl) (by kernel_rfl) (by kernel_rfl) (fun _ _ _ h => h) (by kernel_rfl) (by kernel_rfl) (fun w h => row_range (blockN h HX.out)) Tryz.underlying143 rfl info_ins ((Chg.refl _ _).drew) ?_
 simp only [Act.put, sA, sB, sC]
 refine hp 7 15 (.pointer (some ⟨b, 0, none⟩)) rfl ((Chg.refl _ _).drew) ?_
 refine hp 8 16 (.pointer (some ⟨w.heap.size, 1, none⟩)) rfl ((Chg.refl _ _).drew) ?_
 refine hp 9 17 (.int .u8 a) rfl ((Chg.refl _ _).drew) ?_ (he := (fun w e => by obtain ⟨⟨_, _, hq, _⟩, _⟩ := (Blk5.mk (blockN e HX.out)).all; go_simp))
 refine hp 10 18 (.pointer (some ⟨b, 0, none⟩)) rfl ((Chg.refl _ _).drew) ?_
 refine hp 11 19 (.pointer (some ⟨b, 3, none⟩)) rfl ((Chg.refl _ _).drew) ?_
 refine hp 12 20 (.pointer (some ⟨b, 3 + a, none⟩)) rfl ((Chg.refl _ _).drew) ?_
 refine hp 13 21 (.int .u32 ra) rfl ((Chg.refl _ _).drew) ?_ (he := (fun w e => by have hq := (HP1.out.non e).reg a ha; rw [hra] at hq; go_simp))
 refine hp 14 22 (.int .u8 rb) rfl ((Chg.refl _ _).drew) ?_ (he := (fun w e => by go_simp; rw [IntKind.wrap_u8]; omega))
 refine h_one 6 (by kernel_rfl) rfl (by kernel_rfl) ?_
 intro K hK
 go_simp
 refine (address_ok b p _ op a b2 c n _ (HP1.out.non ((Chg.refl Non _).drew)) hb2 r hrg hn hrb).mono ?_
 rintro e y1 ⟨rfl, hg1⟩
 have HY1 := Lib.hid (((Chg.refl Non _).drew).then_non hg1)
 clear hg1
 refine hK.out _ _ HY1.out (fun _ => ?_)
 clear hK K
 refine h_one 15 (by kernel_rfl) rfl (by kernel_rfl) ?_
 intro K hK
 go_simp
 refine (Store_yes A l cl (r + n) rb _ hrb256 (HR.out.non HY1.out) hlc hcm HT.out).mono ?_
 rintro e y2 ⟨A2, c2, rfl, q1, q2, q3, q4⟩
 have HOw := Lib.hid (q3.mono (show w.heap.size ≤ _ by have h1 := HY1.out.size; simp at h1; omega))
 have HY1 := Lib.hid (HY1.out.then_non q4)
 clear q3 q4
 refine hK.out _ _ HY1.out (fun _ => ?_)
 clear hK K
 refine hp 16 7 (.tuple #[.slice A2 l.length c2, .int .i64 0]) rfl HY1.out ?_
 refine hp 17 24 (.slice A2 l.length c2) rfl HY1.out ?_
 refine hp 18 25 (.int .i64 0) rfl HY1.out ?_
 refine hp 19 5 (.slice A2 l.length c2) rfl HY1.out ?_
 refine hp 20 6 (.int .i64 0) rfl HY1.out ?_
 refine wpAnyH_done (by kernel_rfl) ?_ _
 have HP2 := Lib.hid (HP1.out.non HY1.out)
 have HG2 := Lib.hid (((Chg.refl Non w).alloc _).then_non HY1.out)
 have hc13 := HP2.out.cells.2.2.2.2.2
 have hlt := HP2.out.lt
 have hf := HP2.out.frozen 13
 go_wp2_with fail
 go_ret
 refine ⟨A2, c2, rfl, HP2.out.setMem _, q1, q2, ?_, HG2.out.non_then (setAt y2 b 13 _)⟩
 have ho := HOw.out.keep (setAt y2 b 13 (.slice A2 l.length c2)) (fun b' o' e1 e2 e3 e4 => by have := e2; omega) ; rw [HOb.out] at ho
 exact ho
set_option maxRecDepth 100000 in
theorem storeByte_no (b : Nat) (p : Pt) (A : Option Addr) (l : List UInt8) (cl : Nat) (op a b2 c n r : Nat) (w : World) (hp : PartB w b p (.slice A l.length cl)) (hr : Rd w A l) (hlc : l.length ≤ cl) (hcm : cl ≤ maxLen) (ha : a < 8) (hb2 : b2 < 8) (hn : n < 65536) (hrg : p.g b2 = r) (hrb : r < 4294967296) (ra : Nat) (hra : p.g a = ra) (hrab : ra < 4294967296) (ht : there l (r + n) 1 = false) :
  Calls Tryz.prog 244 #[.pointer (some ⟨b, 0, none⟩), .agg #[.int .u8 op, .int .u8 a, .int .u8 b2, .int .u8 c, .int .i64 n]] w fun e w' => e = .returned (.bool false) ∧ PartB w' b p (.slice A l.length cl) ∧ Chg Non w w' := by
 have hai : (a : Int) < 8 := by omega
 have hlt0 := hp.lt
 have HP := Lib.hid hp
 have HP1 : Hid (PartB (w.alloc (.cells #[.int .u8 op, .int .u8 a, .int .u8 b2, .int .u8 c, .int .i64 n] 143)) b p (.slice A l.length cl)) := Lib.hid (hp.non ((Chg.refl Non w).alloc _))
 have HR := Lib.hid (hr.non ((Chg.refl Non w).alloc (.cells #[.int .u8 op, .int .u8 a, .int .u8 b2, .int .u8 c, .int .i64 n] 143)))
 have HX := Lib.hid (heap_alloc_new w (.cells #[.int .u8 op, .int .u8 a, .int .u8 b2, .int .u8 c, .int .i64 n] 143))
 have HT := Lib.hid ht
 obtain ⟨rb, hrb8⟩ : ∃ rb, ra % 256 = rb := ⟨_, rfl⟩
 have hrb256 : rb < 256 := by omega
 have hofb : UInt8.ofNat rb = UInt8.ofNat ra := by rw [← hrb8]; apply UInt8.toNat_inj.1; simp
 have HOb := Lib.hid hofb
 clear hofb
 clear hp hr ht
 go_enter Tryz.func244, Tryz.ntmps244
 go_wp2_with fail
 refine wp_region_held_drew (S := fun v => Chg Non (w.alloc (.cells #[.int .u8 op, .int .u8 a, .int .u8 b2, .int .u8 c, .int .i64 n] 143)) v) (by kernel_rfl) ((Chg.refl Non _).drew) (fun hHeld => ?_)
 clear hHeld
 refine hp 0 8 (.pointer (some ⟨b, 0, none⟩)) rfl ((Chg.refl _ _).drew) ?_
 refine hp 1 9 (.pointer (some ⟨b, 0, none⟩)) rfl ((Chg.refl _ _).drew) ?_
 refine hp 2 10 (.pointer (some ⟨b, 13, none⟩)) rfl ((Chg.refl _ _).drew) ?_
 refine hp 3 11 (.slice A l.length cl) rfl ((Chg.refl _ _).drew) ?_ (he := (fun w e => by have hq := (HP1.out.non e).cells.2.2.2.2.2; go_simp))
 refine hp 4 12 (.pointer (some ⟨b, 0, none⟩)) rfl ((Chg.refl _ _).drew) ?_
 refine h_load 5 (some 13) 143 (.tmp 3) w.heap.size 0 #[.int .u8 op, .int .u8 a, .int .u8 b2, .int .u8 c, .int .i64 n] _ rfl (by kernel_rfl) (by kernel_rfl) (by kernel_rfl) (by kernel_rfl) (by kernel_rfl) (fun _ _ _ h => h) (by kernel_rfl) (by kernel_rfl) (fun w h => row_range (blockN h HX.out)) Tryz.underlying143 rfl info_ins ((Chg.refl _ _).drew) ?_
 simp only [Act.put, sA, sB, sC]
 refine hp 7 15 (.pointer (some ⟨b, 0, none⟩)) rfl ((Chg.refl _ _).drew) ?_
 refine hp 8 16 (.pointer (some ⟨w.heap.size, 1, none⟩)) rfl ((Chg.refl _ _).drew) ?_
 refine hp 9 17 (.int .u8 a) rfl ((Chg.refl _ _).drew) ?_ (he := (fun w e => by obtain ⟨⟨_, _, hq, _⟩, _⟩ := (Blk5.mk (blockN e HX.out)).all; go_simp))
 refine hp 10 18 (.pointer (some ⟨b, 0, none⟩)) rfl ((Chg.refl _ _).drew) ?_
 refine hp 11 19 (.pointer (some ⟨b, 3, none⟩)) rfl ((Chg.refl _ _).drew) ?_
 refine hp 12 20 (.pointer (some ⟨b, 3 + a, none⟩)) rfl ((Chg.refl _ _).drew) ?_
 refine hp 13 21 (.int .u32 ra) rfl ((Chg.refl _ _).drew) ?_ (he := (fun w e => by have hq := (HP1.out.non e).reg a ha; rw [hra] at hq; go_simp))
 refine hp 14 22 (.int .u8 rb) rfl ((Chg.refl _ _).drew) ?_ (he := (fun w e => by go_simp; rw [IntKind.wrap_u8]; omega))
 refine h_one 6 (by kernel_rfl) rfl (by kernel_rfl) ?_
 intro K hK
 go_simp
 refine (address_ok b p _ op a b2 c n _ (HP1.out.non ((Chg.refl Non _).drew)) hb2 r hrg hn hrb).mono ?_
 rintro e y1 ⟨rfl, hg1⟩
 have HY1 := Lib.hid (((Chg.refl Non _).drew).then_non hg1)
 clear hg1
 refine hK.out _ _ HY1.out (fun _ => ?_)
 clear hK K
 refine h_one 15 (by kernel_rfl) rfl (by kernel_rfl) ?_
 intro K hK
 go_simp
 refine (Store_no A l cl (r + n) rb _ (by omega) HT.out).mono ?_
 rintro e y2 ⟨er, her, rfl, q4⟩
 have HY1 := Lib.hid (HY1.out.then_non q4)
 clear q4
 refine hK.out _ _ HY1.out (fun _ => ?_)
 clear hK K
 refine hp 16 7 (.tuple #[.slice none 0 0, .int .i64 er]) rfl HY1.out ?_
 refine hp 17 24 (.slice none 0 0) rfl HY1.out ?_
 refine hp 18 25 (.int .i64 er) rfl HY1.out ?_
 refine hp 19 5 (.slice none 0 0) rfl HY1.out ?_
 refine hp 20 6 (.int .i64 er) rfl HY1.out ?_
 refine wpAnyH_done (by kernel_rfl) ?_ _
 go_wp2_with fail
 go_ret
 exact ⟨rfl, HP1.out.non HY1.out, ((Chg.refl Non w).alloc _).then_non HY1.out⟩
set_option maxRecDepth 100000 in
theorem storeWord_yes (b : Nat) (p : Pt) (A : Option Addr) (l : List UInt8) (cl : Nat) (op a b2 c n r : Nat) (w : World) (hp : PartB w b p (.slice A l.length cl)) (hr : Rd w A l) (hlc : l.length ≤ cl) (hcm : cl ≤ maxLen) (ha : a < 8) (hb2 : b2 < 8) (hn : n < 65536) (hrg : p.g b2 = r) (hrb : r < 4294967296) (ra : Nat) (hra : p.g a = ra) (hrab : ra < 4294967296) (ht : there l (r + n) 4 = true) :
  Calls Tryz.prog 246 #[.pointer (some ⟨b, 0, none⟩), .agg #[.int .u8 op, .int .u8 a, .int .u8 b2, .int .u8 c, .int .i64 n]] w fun e w' => ∃ A2 c2, e = .returned (.bool true) ∧ PartB w' b p (.slice A2 l.length c2) ∧ l.length ≤ c2 ∧ c2 ≤ maxLen ∧ Own w.heap.size w' A2 (put l (r + n) (word32 ra)) ∧ Chg (fun k => k = b) w w' := by
 have hai : (a : Int) < 8 := by omega
 have hlt0 := hp.lt
 have HP := Lib.hid hp
 have HP1 : Hid (PartB (w.alloc (.cells #[.int .u8 op, .int .u8 a, .int .u8 b2, .int .u8 c, .int .i64 n] 143)) b p (.slice A l.length cl)) := Lib.hid (hp.non ((Chg.refl Non w).alloc _))
 have HR := Lib.hid (hr.non ((Chg.refl Non w).alloc (.cells #[.int .u8 op, .int .u8 a, .int .u8 b2, .int .u8 c, .int .i64 n] 143)))
 have HX := Lib.hid (heap_alloc_new w (.cells #[.int .u8 op, .int .u8 a, .int .u8 b2, .int .u8 c, .int .i64 n] 143))
 have HT := Lib.hid ht
 clear hp hr ht
 go_enter Tryz.func246, Tryz.ntmps246
 go_wp2_with fail
 refine wp_region_held_drew (S := fun v => Chg Non (w.alloc (.cells #[.int .u8 op, .int .u8 a, .int .u8 b2, .int .u8 c, .int .i64 n] 143)) v) (by kernel_rfl) ((Chg.refl Non _).drew) (fun hHeld => ?_)
 clear hHeld
 refine hp 0 8 (.pointer (some ⟨b, 0, none⟩)) rfl ((Chg.refl _ _).drew) ?_
 refine hp 1 9 (.pointer (some ⟨b, 0, none⟩)) rfl ((Chg.refl _ _).drew) ?_
 refine hp 2 10 (.pointer (some ⟨b, 13, none⟩)) rfl ((Chg.refl _ _).drew) ?_
 refine hp 3 11 (.slice A l.length cl) rfl ((Chg.refl _ _).drew) ?_ (he := (fun w e => by have hq := (HP1.out.non e).cells.2.2.2.2.2; go_simp))
 refine hp 4 12 (.pointer (some ⟨b, 0, none⟩)) rfl ((Chg.refl _ _).drew) ?_
 refine h_load 5 (some 13) 143 (.tmp 3) w.heap.size 0 #[.int .u8 op, .int .u8 a, .int .u8 b2, .int .u8 c, .int .i64 n] _ rfl (by kernel_rfl) (by kernel_rfl) (by kernel_rfl) (by kernel_rfl) (by kernel_rfl) (fun _ _ _ h => h) (by kernel_rfl) (by kernel_rfl) (fun w h => row_range (blockN h HX.out)) Tryz.underlying143 rfl info_ins ((Chg.refl _ _).drew) ?_
 simp only [Act.put, sA, sB, sC]
 refine hp 7 15 (.pointer (some ⟨b, 0, none⟩)) rfl ((Chg.refl _ _).drew) ?_
 refine hp 8 16 (.pointer (some ⟨w.heap.size, 1, none⟩)) rfl ((Chg.refl _ _).drew) ?_
 refine hp 9 17 (.int .u8 a) rfl ((Chg.refl _ _).drew) ?_ (he := (fun w e => by obtain ⟨⟨_, _, hq, _⟩, _⟩ := (Blk5.mk (blockN e HX.out)).all; go_simp))
 refine hp 10 18 (.pointer (some ⟨b, 0, none⟩)) rfl ((Chg.refl _ _).drew) ?_
 refine hp 11 19 (.pointer (some ⟨b, 3, none⟩)) rfl ((Chg.refl _ _).drew) ?_
 refine hp 12 20 (.pointer (some ⟨b, 3 + a, none⟩)) rfl ((Chg.refl _ _).drew) ?_
 refine hp 13 21 (.int .u32 ra) rfl ((Chg.refl _ _).drew) ?_ (he := (fun w e => by have hq := (HP1.out.non e).reg a ha; rw [hra] at hq; go_simp))
 refine h_one 6 (by kernel_rfl) rfl (by kernel_rfl) ?_
 intro K hK
 go_simp
 refine (address_ok b p _ op a b2 c n _ (HP1.out.non ((Chg.refl Non _).drew)) hb2 r hrg hn hrb).mono ?_
 rintro e y1 ⟨rfl, hg1⟩
 have HY1 := Lib.hid (((Chg.refl Non _).drew).then_non hg1)
 clear hg1
 refine hK.out _ _ HY1.out (fun _ => ?_)
 clear hK K
 refine h_one 14 (by kernel_rfl) rfl (by kernel_rfl) ?_
 intro K hK
 go_simp
 refine (Store32_yes A l cl (r + n) ra _ hrab (HR.out.non HY1.out) hlc hcm HT.out).mono ?_
 rintro e y2 ⟨A2, c2, rfl, q1, q2, q3, q4⟩
 have HOw := Lib.hid (q3.mono (show w.heap.size ≤ _ by have h1 := HY1.out.size; simp at h1; omega))
 have HY1 := Lib.hid (HY1.out.then_non q4)
 clear q3 q4
 refine hK.out _ _ HY1.out (fun _ => ?_)
 clear hK K
 refine hp 15 7 (.tuple #[.slice A2 l.length c2, .int .i64 0]) rfl HY1.out ?_
 refine hp 16 23 (.slice A2 l.length c2) rfl HY1.out ?_
 refine hp 17 24 (.int .i64 0) rfl HY1.out ?_
 refine hp 18 5 (.slice A2 l.length c2) rfl HY1.out ?_
 refine hp 19 6 (.int .i64 0) rfl HY1.out ?_
 refine wpAnyH_done (by kernel_rfl) ?_ _
 have HP2 := Lib.hid (HP1.out.non HY1.out)
 have HG2 := Lib.hid (((Chg.refl Non w).alloc _).then_non HY1.out)
 have hc13 := HP2.out.cells.2.2.2.2.2
 have hlt := HP2.out.lt
 have hf := HP2.out.frozen 13
 go_wp2_with fail
 go_ret
 refine ⟨A2, c2, rfl, HP2.out.setMem _, q1, q2, ?_, HG2.out.non_then (setAt y2 b 13 _)⟩
 have ho := HOw.out.keep (setAt y2 b 13 (.slice A2 l.length c2)) (fun b' o' e1 e2 e3 e4 => by have := e2; omega)
 exact ho
set_option maxRecDepth 100000 in
theorem storeWord_no (b : Nat) (p : Pt) (A : Option Addr) (l : List UInt8) (cl : Nat) (op a b2 c n r : Nat) (w : World) (hp : PartB w b p (.slice A l.length cl)) (hr : Rd w A l) (hlc : l.length ≤ cl) (hcm : cl ≤ maxLen) (ha : a < 8) (hb2 : b2 < 8) (hn : n < 65536) (hrg : p.g b2 = r) (hrb : r < 4294967296) (ra : Nat) (hra : p.g a = ra) (hrab : ra < 4294967296) (ht : there l (r + n) 4 = false) :
  Calls Tryz.prog 246 #[.pointer (some ⟨b, 0, none⟩), .agg #[.int .u8 op, .int .u8 a, .int .u8 b2, .int .u8 c, .int .i64 n]] w fun e w' => e = .returned (.bool false) ∧ PartB w' b p (.slice A l.length cl) ∧ Chg Non w w' := by
 have hai : (a : Int) < 8 := by omega
 have hlt0 := hp.lt
 have HP := Lib.hid hp
 have HP1 : Hid (PartB (w.alloc (.cells #[.int .u8 op, .int .u8 a, .int .u8 b2, .int .u8 c, .int .i64 n] 143)) b p (.slice A l.length cl)) := Lib.hid (hp.non ((Chg.refl Non w).alloc _))
 have HR := Lib.hid (hr.non ((Chg.refl Non w).alloc (.cells #[.int .u8 op, .int .u8 a, .int .u8 b2, .int .u8 c, .int .i64 n] 143)))
 have HX := Lib.hid (heap_alloc_new w (.cells #[.int .u8 op, .int .u8 a, .int .u8 b2, .int .u8 c, .int .i64 n] 143))
 have HT := Lib.hid ht
 clear hp hr ht
 go_enter Tryz.func246, Tryz.ntmps246
 go_wp2_with fail
 refine wp_region_held_drew (S := fun v => Chg Non (w.alloc (.cells #[.int .u8 op, .int .u8 a, .int .u8 b2, .int .u8 c, .int .i64 n] 143)) v) (by kernel_rfl) ((Chg.refl Non _).drew) (fun hHeld => ?_)
 clear hHeld
 refine hp 0 8 (.pointer (some ⟨b, 0, none⟩)) rfl ((Chg.refl _ _).drew) ?_
 refine hp 1 9 (.pointer (some ⟨b, 0, none⟩)) rfl ((Chg.refl _ _).drew) ?_
 refine hp 2 10 (.pointer (some ⟨b, 13, none⟩)) rfl ((Chg.refl _ _).drew) ?_
 refine hp 3 11 (.slice A l.length cl) rfl ((Chg.refl _ _).drew) ?_ (he := (fun w e => by have hq := (HP1.out.non e).cells.2.2.2.2.2; go_simp))
 refine hp 4 12 (.pointer (some ⟨b, 0, none⟩)) rfl ((Chg.refl _ _).drew) ?_
 refine h_load 5 (some 13) 143 (.tmp 3) w.heap.size 0 #[.int .u8 op, .int .u8 a, .int .u8 b2, .int .u8 c, .int .i64 n] _ rfl (by kernel_rfl) (by kernel_rfl) (by kernel_rfl) (by kernel_rfl) (by kernel_rfl) (fun _ _ _ h => h) (by kernel_rfl) (by kernel_rfl) (fun w h => row_range (blockN h HX.out)) Tryz.underlying143 rfl info_ins ((Chg.refl _ _).drew) ?_
 simp only [Act.put, sA, sB, sC]
 refine hp 7 15 (.pointer (some ⟨b, 0, none⟩)) rfl ((Chg.refl _ _).drew) ?_
 refine hp 8 16 (.pointer (some ⟨w.heap.size, 1, none⟩)) rfl ((Chg.refl _ _).drew) ?_
 refine hp 9 17 (.int .u8 a) rfl ((Chg.refl _ _).drew) ?_ (he := (fun w e => by obtain ⟨⟨_, _, hq, _⟩, _⟩ := (Blk5.mk (blockN e HX.out)).all; go_simp))
 refine hp 10 18 (.pointer (some ⟨b, 0, none⟩)) rfl ((Chg.refl _ _).drew) ?_
 refine hp 11 19 (.pointer (some ⟨b, 3, none⟩)) rfl ((Chg.refl _ _).drew) ?_
 refine hp 12 20 (.pointer (some ⟨b, 3 + a, none⟩)) rfl ((Chg.refl _ _).drew) ?_
 refine hp 13 21 (.int .u32 ra) rfl ((Chg.refl _ _).drew) ?_ (he := (fun w e => by have hq := (HP1.out.non e).reg a ha; rw [hra] at hq; go_simp))
 refine h_one 6 (by kernel_rfl) rfl (by kernel_rfl) ?_
 intro K hK
 go_simp
 refine (address_ok b p _ op a b2 c n _ (HP1.out.non ((Chg.refl Non _).drew)) hb2 r hrg hn hrb).mono ?_
 rintro e y1 ⟨rfl, hg1⟩
 have HY1 := Lib.hid (((Chg.refl Non _).drew).then_non hg1)
 clear hg1
 refine hK.out _ _ HY1.out (fun _ => ?_)
 clear hK K
 refine h_one 14 (by kernel_rfl) rfl (by kernel_rfl) ?_
 intro K hK
 go_simp
 refine (Store32_no A l cl (r + n) ra _ hrab (by omega) HT.out).mono ?_
 rintro e y2 ⟨er, her, rfl, q4⟩
 have HY1 := Lib.hid (HY1.out.then_non q4)
 clear q4
 refine hK.out _ _ HY1.out (fun _ => ?_)
 clear hK K
 refine hp 15 7 (.tuple #[.slice none 0 0, .int .i64 er]) rfl HY1.out ?_
 refine hp 16 23 (.slice none 0 0) rfl HY1.out ?_
 refine hp 17 24 (.int .i64 er) rfl HY1.out ?_
 refine hp 18 5 (.slice none 0 0) rfl HY1.out ?_
 refine hp 19 6 (.int .i64 er) rfl HY1.out ?_
 refine wpAnyH_done (by kernel_rfl) ?_ _
 go_wp2_with fail
 go_ret
 exact ⟨rfl, HP1.out.non HY1.out, ((Chg.refl Non w).alloc _).then_non HY1.out⟩
end
section
open Go.RowKit
theorem nm_jmp : ∀ k, k < 22 → ((opAt k).name == [106, 109, 112]) = decide (k = 17) := by decide +kernel
theorem nm_jz : ∀ k, k < 22 → ((opAt k).name == [106, 122]) = decide (k = 18) := by decide +kernel
theorem nm_jnz : ∀ k, k < 22 → ((opAt k).name == [106, 110, 122]) = decide (k = 19) := by decide +kernel
theorem nm_call : ∀ k, k < 22 → ((opAt k).name == [99, 97, 108, 108]) = decide (k = 20) := by decide +kernel
set_option maxRecDepth 100000 in
theorem jumps_17 (b : Nat) (p : Pt) (m : Value) (op a b2 c n : Nat) (w : World) (hp : PartB w b p m) (ho : op < 22) (ha : a < 8) (hop : op = 17) :
  Calls Tryz.prog 234 #[.pointer (some ⟨b, 0, none⟩), .agg #[.int .u8 op, .int .u8 a, .int .u8 b2, .int .u8 c, .int .i64 n]] w fun e w' => e = .returned (.bool (true)) ∧ Chg Non w w' := by
 have hai : (a : Int) < 8 := by omega
 have q1 := nm_jmp op ho
 have q2 := nm_jz op ho
 have q3 := nm_jnz op ho
 obtain ⟨N, hN⟩ : ∃ N, (opAt op).name = N := ⟨_, rfl⟩
 have HNm : Hid (∀ W, Calls Tryz.prog 236 #[.int .u8 op] W fun e w' => e = .returned (.string ⟨N.toArray⟩) ∧ Chg Non W w') := Lib.hid (fun W => by have h := Name_ok op W; rw [hN] at h; exact h)
 have HP := Lib.hid hp
 rw [hN] at q1 q2 q3
 subst hop
 rw [show decide (17 = 17) = true from rfl] at q1
 rw [show decide (17 = 18) = false from rfl] at q2
 rw [show decide (17 = 19) = false from rfl] at q3
 clear hN hp
 go_enter Tryz.func234, Tryz.ntmps234
 go_wp2_with fail
 refine (HNm.out _).mono ?_
 rintro e y1 ⟨rfl, hg⟩
 have hp2 := HP.out.non (((Chg.refl Non w).alloc _).then_non hg)
 have HG := Lib.hid (((Chg.refl Non w).alloc _).then_non hg)
 have HX := Lib.hid (blockN hg (heap_alloc_new w _))
 clear hg
 clear hp2
 go_wp2_with fail
 go_ret
 exact ⟨rfl, HG.out⟩
set_option maxRecDepth 100000 in
theorem jumps_18 (b : Nat) (p : Pt) (m : Value) (op a b2 c n : Nat) (w : World) (hp : PartB w b p m) (ho : op < 22) (ha : a < 8) (hop : op = 18) (r : Nat) (hr : p.g a = r) :
  Calls Tryz.prog 234 #[.pointer (some ⟨b, 0, none⟩), .agg #[.int .u8 op, .int .u8 a, .int .u8 b2, .int .u8 c, .int .i64 n]] w fun e w' => e = .returned (.bool (((r : Int) == 0))) ∧ Chg Non w w' := by
 have hai : (a : Int) < 8 := by omega
 have q1 := nm_jmp op ho
 have q2 := nm_jz op ho
 have q3 := nm_jnz op ho
 obtain ⟨N, hN⟩ : ∃ N, (opAt op).name = N := ⟨_, rfl⟩
 have HNm : Hid (∀ W, Calls Tryz.prog 236 #[.int .u8 op] W fun e w' => e = .returned (.string ⟨N.toArray⟩) ∧ Chg Non W w') := Lib.hid (fun W => by have h := Name_ok op W; rw [hN] at h; exact h)
 have HP := Lib.hid hp
 rw [hN] at q1 q2 q3
 subst hop
 rw [show decide (18 = 17) = false from rfl] at q1
 rw [show decide (18 = 18) = true from rfl] at q2
 rw [show decide (18 = 19) = false from rfl] at q3
 clear hN hp
 go_enter Tryz.func234, Tryz.ntmps234
 go_wp2_with fail
 refine (HNm.out _).mono ?_
 rintro e y1 ⟨rfl, hg⟩
 have hp2 := HP.out.non (((Chg.refl Non w).alloc _).then_non hg)
 have HG := Lib.hid (((Chg.refl Non w).alloc _).then_non hg)
 have HX := Lib.hid (blockN hg (heap_alloc_new w _))
 clear hg
 have hca := hp2.reg a ha
 rw [hr] at hca
 obtain ⟨⟨z, c0, c1, c2, c3, c4⟩, _⟩ := (Blk5.mk HX.out).all
 clear hp2
 go_wp2_with fail
 refine wp_region_held_drew (S := fun W => W.cell? ⟨w.heap.size, 1, none⟩ = some (.int .u8 a) ∧ W.cell? ⟨b, 3 + a, none⟩ = some (.int .u32 r)) (by kernel_rfl) ⟨c1, hca⟩ (fun hHeld => ?_)
 refine hp 0 12 (.pointer (some ⟨b, 0, none⟩)) rfl hHeld ?_ (he := (fun W hW => by obtain ⟨e1, e2⟩ := hW; go_simp))
 refine hp 1 13 (.pointer (some ⟨w.heap.size, 1, none⟩)) rfl hHeld ?_ (he := (fun W hW => by obtain ⟨e1, e2⟩ := hW; go_simp))
 refine hp 2 14 (.int .u8 a) rfl hHeld ?_ (he := (fun W hW => by obtain ⟨e1, e2⟩ := hW; go_simp))
 refine hp 3 15 (.pointer (some ⟨b, 0, none⟩)) rfl hHeld ?_ (he := (fun W hW => by obtain ⟨e1, e2⟩ := hW; go_simp))
 refine hp 4 16 (.pointer (some ⟨b, 3, none⟩)) rfl hHeld ?_ (he := (fun W hW => by obtain ⟨e1, e2⟩ := hW; go_simp))
 refine hp 5 17 (.pointer (some ⟨b, 3 + a, none⟩)) rfl hHeld ?_ (he := (fun W hW => by obtain ⟨e1, e2⟩ := hW; go_simp))
 refine hp 6 18 (.int .u32 r) rfl hHeld ?_ (he := (fun W hW => by obtain ⟨e1, e2⟩ := hW; go_simp))
 refine hp 7 19 (.bool ((r : Int) == 0)) rfl hHeld ?_ (he := (fun W hW => by obtain ⟨e1, e2⟩ := hW; go_simp))
 refine hp 8 4 (.bool ((r : Int) == 0)) rfl hHeld ?_ (he := (fun W hW => by obtain ⟨e1, e2⟩ := hW; go_simp))
 refine wpAnyH_done (by kernel_rfl) ?_ _
 go_wp2_with fail
 go_ret
 exact ⟨rfl, HG.out.drew⟩
set_option maxRecDepth 100000 in
theorem jumps_19 (b : Nat) (p : Pt) (m : Value) (op a b2 c n : Nat) (w : World) (hp : PartB w b p m) (ho : op < 22) (ha : a < 8) (hop : op = 19) (r : Nat) (hr : p.g a = r) :
  Calls Tryz.prog 234 #[.pointer (some ⟨b, 0, none⟩), .agg #[.int .u8 op, .int .u8 a, .int .u8 b2, .int .u8 c, .int .i64 n]] w fun e w' => e = .returned (.bool (((r : Int) != 0))) ∧ Chg Non w w' := by
 have hai : (a : Int) < 8 := by omega
 have q1 := nm_jmp op ho
 have q2 := nm_jz op ho
 have q3 := nm_jnz op ho
 obtain ⟨N, hN⟩ : ∃ N, (opAt op).name = N := ⟨_, rfl⟩
 have HNm : Hid (∀ W, Calls Tryz.prog 236 #[.int .u8 op] W fun e w' => e = .returned (.string ⟨N.toArray⟩) ∧ Chg Non W w') := Lib.hid (fun W => by have h := Name_ok op W; rw [hN] at h; exact h)
 have HP := Lib.hid hp
 rw [hN] at q1 q2 q3
 subst hop
 rw [show decide (19 = 17) = false from rfl] at q1
 rw [show decide (19 = 18) = false from rfl] at q2
 rw [show decide (19 = 19) = true from rfl] at q3
 clear hN hp
 go_enter Tryz.func234, Tryz.ntmps234
 go_wp2_with fail
 refine (HNm.out _).mono ?_
 rintro e y1 ⟨rfl, hg⟩
 have hp2 := HP.out.non (((Chg.refl Non w).alloc _).then_non hg)
 have HG := Lib.hid (((Chg.refl Non w).alloc _).then_non hg)
 have HX := Lib.hid (blockN hg (heap_alloc_new w _))
 clear hg
 have hca := hp2.reg a ha
 rw [hr] at hca
 obtain ⟨⟨z, c0, c1, c2, c3, c4⟩, _⟩ := (Blk5.mk HX.out).all
 clear hp2
 go_wp2_with fail
 refine wp_region_held_drew (S := fun W => W.cell? ⟨w.heap.size, 1, none⟩ = some (.int .u8 a) ∧ W.cell? ⟨b, 3 + a, none⟩ = some (.int .u32 r)) (by kernel_rfl) ⟨c1, hca⟩ (fun hHeld => ?_)
 refine hp 0 22 (.pointer (some ⟨b, 0, none⟩)) rfl hHeld ?_ (he := (fun W hW => by obtain ⟨e1, e2⟩ := hW; go_simp))
 refine hp 1 23 (.pointer (some ⟨w.heap.size, 1, none⟩)) rfl hHeld ?_ (he := (fun W hW => by obtain ⟨e1, e2⟩ := hW; go_simp))
 refine hp 2 24 (.int .u8 a) rfl hHeld ?_ (he := (fun W hW => by obtain ⟨e1, e2⟩ := hW; go_simp))
 refine hp 3 25 (.pointer (some ⟨b, 0, none⟩)) rfl hHeld ?_ (he := (fun W hW => by obtain ⟨e1, e2⟩ := hW; go_simp))
 refine hp 4 26 (.pointer (some ⟨b, 3, none⟩)) rfl hHeld ?_ (he := (fun W hW => by obtain ⟨e1, e2⟩ := hW; go_simp))
 refine hp 5 27 (.pointer (some ⟨b, 3 + a, none⟩)) rfl hHeld ?_ (he := (fun W hW => by obtain ⟨e1, e2⟩ := hW; go_simp))
 refine hp 6 28 (.int .u32 r) rfl hHeld ?_ (he := (fun W hW => by obtain ⟨e1, e2⟩ := hW; go_simp))
 refine hp 7 29 (.bool ((r : Int) != 0)) rfl hHeld ?_ (he := (fun W hW => by obtain ⟨e1, e2⟩ := hW; go_simp))
 refine hp 8 4 (.bool ((r : Int) != 0)) rfl hHeld ?_ (he := (fun W hW => by obtain ⟨e1, e2⟩ := hW; go_simp))
 refine wpAnyH_done (by kernel_rfl) ?_ _
 go_wp2_with fail
 go_ret
 exact ⟨rfl, HG.out.drew⟩
set_option maxRecDepth 100000 in
theorem jumps_no (b : Nat) (p : Pt) (m : Value) (op a b2 c n : Nat) (w : World) (hp : PartB w b p m) (ho : op < 22) (ha : a < 8) (h17 : op ≠ 17) (h18 : op ≠ 18) (h19 : op ≠ 19) :
  Calls Tryz.prog 234 #[.pointer (some ⟨b, 0, none⟩), .agg #[.int .u8 op, .int .u8 a, .int .u8 b2, .int .u8 c, .int .i64 n]] w fun e w' => e = .returned (.bool (false)) ∧ Chg Non w w' := by
 have hai : (a : Int) < 8 := by omega
 have q1 := nm_jmp op ho
 have q2 := nm_jz op ho
 have q3 := nm_jnz op ho
 obtain ⟨N, hN⟩ : ∃ N, (opAt op).name = N := ⟨_, rfl⟩
 have HNm : Hid (∀ W, Calls Tryz.prog 236 #[.int .u8 op] W fun e w' => e = .returned (.string ⟨N.toArray⟩) ∧ Chg Non W w') := Lib.hid (fun W => by have h := Name_ok op W; rw [hN] at h; exact h)
 have HP := Lib.hid hp
 rw [hN] at q1 q2 q3
 rw [decide_eq_false h17] at q1
 rw [decide_eq_false h18] at q2
 rw [decide_eq_false h19] at q3
 clear hN hp
 go_enter Tryz.func234, Tryz.ntmps234
 go_wp2_with fail
 refine (HNm.out _).mono ?_
 rintro e y1 ⟨rfl, hg⟩
 have hp2 := HP.out.non (((Chg.refl Non w).alloc _).then_non hg)
 have HG := Lib.hid (((Chg.refl Non w).alloc _).then_non hg)
 have HX := Lib.hid (blockN hg (heap_alloc_new w _))
 clear hg
 clear hp2
 go_wp2_with fail
 go_ret
 exact ⟨rfl, HG.out⟩
theorem jumps_ok (b : Nat) (p : Pt) (m : Value) (op a b2 c n : Nat) (w : World) (hp : PartB w b p m) (ho : op < 22) (ha : a < 8) :
  Calls Tryz.prog 234 #[.pointer (some ⟨b, 0, none⟩), .agg #[.int .u8 op, .int .u8 a, .int .u8 b2, .int .u8 c, .int .i64 n]] w fun e w' => e = .returned (.bool (jumpsB ⟨op, a, b2, c, n⟩ p)) ∧ Chg Non w w' := by
 by_cases h17 : op = 17
 ·rw [show jumpsB ⟨op, a, b2, c, n⟩ p = true by simp [jumpsB, h17]]
  exact jumps_17 b p m op a b2 c n w hp ho ha h17
 by_cases h18 : op = 18
 ·rw [show jumpsB ⟨op, a, b2, c, n⟩ p = ((p.g a : Int) == 0) by simp only [jumpsB, h18]; rw [Bool.eq_iff_iff]; simp]
  exact jumps_18 b p m op a b2 c n w hp ho ha h18 _ rfl
 by_cases h19 : op = 19
 ·rw [show jumpsB ⟨op, a, b2, c, n⟩ p = ((p.g a : Int) != 0) by simp only [jumpsB, h19]; rw [Bool.eq_iff_iff]; simp]
  exact jumps_19 b p m op a b2 c n w hp ho ha h19 _ rfl
 rw [show jumpsB ⟨op, a, b2, c, n⟩ p = false by simp [jumpsB, h17, h18, h19]]
 exact jumps_no b p m op a b2 c n w hp ho ha h17 h18 h19
end
section
open Go.RowKit
theorem partC_one (p : Pt) (m : Value) (hm : m.oneCell' = true) : (partC p m).all (·.oneCell') = true := by
 simp only [partC, partL, List.all_toArray]
 rw [List.all_eq_true]
 intro v hv
 simp only [List.mem_cons, List.mem_append, List.mem_map, List.not_mem_nil, or_false] at hv
 rcases hv with rfl | rfl | rfl | ⟨n, _, rfl⟩ | rfl | rfl | rfl
 all_goals first | rfl | exact hm
def zeroPart : Array Value := #[.int .i64 0, .int .i64 0, .bool false, .int .u32 0, .int .u32 0, .int .u32 0, .int .u32 0, .int .u32 0, .int .u32 0, .int .u32 0, .int .u32 0, .int .u32 0, .int .u8 0, .slice none 0 0]
set_option maxRecDepth 100000 in
theorem Copy_ok (p : Pt) (A : Option Addr) (l : List UInt8) (c : Nat) (w : World) (h8 : p.r.length = 8) (hr : Rd w A l) (hl : l.length ≤ 140737488355328) :
  Calls Tryz.prog 84 #[.agg (partC p (.slice A l.length c))] w fun e w' => ∃ A2 c2, e = .returned (.agg (partC p (.slice A2 l.length c2))) ∧ l.length ≤ c2 ∧ c2 ≤ maxLen ∧ Own w.heap.size w' A2 l ∧ Chg Non w w' := by
 have HR := Lib.hid hr
 obtain ⟨C, hC⟩ : ∃ C, partC p (.slice A l.length c) = C := ⟨_, rfl⟩
 have hsz : C.size = 14 := by rw [← hC]; exact partC_size h8 _
 have e13 : C[13]'(by omega) = .slice A l.length c := by
  have h := partC_end h8 (.slice A l.length c) 2 (by omega)
  rw [hC] at h
  rw [Array.getElem?_eq_getElem (by omega)] at h
  simpa using h
 have HC := Lib.hid hC
 rw [hC]
 clear hC hr
 go_enter Tryz.func84, Tryz.ntmps84
 go_wp2_with fail
 have HZ : Hid (Chg Non w ((w.alloc (.cells C 69)).alloc (.cells zeroPart 69))) := Lib.hid (((Chg.refl Non w).alloc _).alloc _)
 refine (SlClone_ok A l c _ (HR.out.non HZ.out) hl).mono ?_
 rintro e w1 ⟨A2, c2, rfl, q1, q2, q3, q4⟩
 have HO := Lib.hid (q3.mono (show w.heap.size + 2 ≤ _ by simp))
 have HG := Lib.hid (HZ.out.then_non q4)
 have HB0 := Lib.hid (blockN q4 (al_2_0 w _ _))
 have HB1 := Lib.hid (blockN q4 (al_2_1 w (.cells C 69) (.cells zeroPart 69)))
 have hp0 : PartB w1 w.heap.size p (.slice A l.length c) := ⟨by unfold PartAt; rw [HC.out]; exact HB0.out, h8⟩
 have HP := Lib.hid hp0
 have hlt := hp0.lt
 have hf := hp0.frozen 13
 have hc13 := hp0.cells.2.2.2.2.2
 clear q3 q4 hp0 e13
 go_wp2_with (refine sel (some 7) (.load _ _) ?_; refine Vm_stop ?_)
 refine HoleV.mk ?_
 have hp1 := HP.out.setMem (.slice A2 l.length c2)
 have HG1 := Lib.hid (HG.out.then_new (setAt w1 w.heap.size 13 (.slice A2 l.length c2)) (fun x e => by omega))
 have HO1 := Lib.hid (HO.out.keep (setAt w1 w.heap.size 13 (.slice A2 l.length c2)) (fun b' o' e1 e2 e3 e4 => by omega))
 have HB11 := Lib.hid (blockS HB1.out (setAt w1 w.heap.size 13 (.slice A2 l.length c2)) (by omega))
 have HP1 := Lib.hid hp1
 refine wpList_load_row rfl 69 (.tmp 1) rfl w.heap.size rfl 69 (partC p (.slice A2 l.length c2)) (0, 0) _ HP1.out.out Tryz.underlying69 rfl (by rw [partC_size h8]; exact info_part) ?_
 have hone : (partC p (.slice A2 l.length c2)).all (·.oneCell') = true := partC_one _ _ rfl
 refine wpList_store_rowA rfl 69 (.tmp 2) (.tmp 7) rfl (w.heap.size + 1) (partC p (.slice A2 l.length c2)) rfl rfl 69 zeroPart HB11.out (by rw [partC_size h8]; exact info_part) (by rw [partC_size h8]; rfl) hone ?_
 intro W hgW hbW
 have HBW := Lib.hid hbW
 have HG2 := Lib.hid (HG1.out.then_new hgW (fun x e => by omega))
 have HO2 := Lib.hid (HO1.out.keep hgW (fun b' o' e1 e2 e3 e4 => by omega))
 clear hbW hgW hp1
 go_wp2_with fail
 exact bodyPost_ret (results_cell_row Tryz.results84 _ _ (w.heap.size + 1) 69 _ (0, 0) _ rfl HBW.out Tryz.underlying69 rfl (by rw [partC_size h8]; exact info_part)) rfl ⟨A2, c2, rfl, q1, q2, HO2.out.mono (by omega), HG2.out⟩
end
end Go.Proofs.YtmnaleaghfbclaaGreatDoor
