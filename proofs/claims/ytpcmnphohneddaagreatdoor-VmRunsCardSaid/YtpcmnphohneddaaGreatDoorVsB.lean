/- The document's answer of layer 20 (citadelref20): Step, where it does not jump. (Written by wip/gen_vog.py.) -/
import Derived.Test.YtpcmnphohneddaaGreatDoorVsA
namespace Go.Proofs.YtpcmnphohneddaaGreatDoor
open Go.RowKit
set_option linter.unusedVariables false

set_option maxRecDepth 100000 in
set_option maxHeartbeats 8000000 in
theorem rMid (p : Pt) (w : World) (hb : p.Bd) (op a b2 cc n rb rc : Nat) (ha8 : a < 8) (hb8 : b2 < 8) (hc8 : cc < 8) (hn16 : n < 65536) (hrb : p.g b2 = rb) (hrc : p.g cc = rc) (R : Ending → World → Prop) (N : List UInt8) (j0 : (N == [106, 109, 112]) = false) (j1 : (N == [106, 122]) = false) (j2 : (N == [106, 110, 122]) = false)
    (hrest : ∀ cd, tailO 10 Tryz.f10.body = some cd → ∀ T b ob A2 c2 v, T = slots16 (fun i => T.getD i undef) w.heap.size b ob rb rc N → At12 w v b ob p A2 c2 op a b2 cc n → cd.wp Tryz.prog (bodyPost Tryz.prog Tryz.f10 R) ⟨T, []⟩ v)
    (cd : Code) (hcd : tailO 8 Tryz.f10.body = some cd) (T : Array Value) (b ob : Nat) (A2 : Option Addr) (c2 : Nat) (v : World) (hT : T = slots12 (fun i => T.getD i undef) w.heap.size b ob N) (h : At12 w v b ob p A2 c2 op a b2 cc n) : cd.wp Tryz.prog (bodyPost Tryz.prog Tryz.f10 R) ⟨T, []⟩ v := by
  have HRest := Lib.hid hrest
  have HS4 := Lib.hid h.st
  have HX4 := Lib.hid h.x
  have hobb := h.lt
  have hrb32 : rb < 4294967296 := by rw [← hrb]; exact hb.rb b2
  have hrc32 : rc < 4294967296 := by rw [← hrc]; exact hb.rb cc
  have hra32 : p.g a < 4294967296 := hb.rb a
  have hai : (a : Int) < 8 := by omega
  obtain ⟨⟨z, o0, o1, o2, o3, o4⟩, _⟩ := (Blk5.mk h.x).all
  have hlt0 := h.st.pb.lt
  clear hrest h
  generalize (fun i => T.getD i undef) = y at hT
  subst hT
  refine rest_of hcd rfl ?_
  clear hcd cd
  simp only [slots12]
  have hgb := HS4.out.pb.reg b2 hb8
  have hgc := HS4.out.pb.reg cc hc8
  rw [hrb] at hgb
  rw [hrc] at hgc
  have hbi : (b2 : Int) < 8 := by omega
  have hci : (cc : Int) < 8 := by omega
  have wu0 : IntKind.u64.wrap (rb : Int) = (rb : Int) := Go.IntWalk.u64_in _ (by omega)
  have wu1 : IntKind.u64.wrap (rc : Int) = (rc : Int) := Go.IntWalk.u64_in _ (by omega)
  go_wp2_with fail
  refine wp_region_held_drew (S := fun W => Chg Non v W) (by kernel_rfl) ((Chg.refl Non _).drew) (fun hHeld => ?_)
  clear hHeld
  refine h_pure 0 (some 102) (.pointer (some ⟨ob, 2, none⟩)) rfl (by kernel_rfl) (by kernel_rfl) (by kernel_rfl) (by kernel_rfl) (fun _ _ _ h => h) (by kernel_rfl) (fun W hW => by go_simp) ((Chg.refl Non _).drew) ?_
  simp only [Act.put, List.setIfInBounds_toArray, List.set_cons_zero, List.set_cons_succ]
  refine h_pure 1 (some 103) (.int .u8 b2) rfl (by kernel_rfl) (by kernel_rfl) (by kernel_rfl) (by kernel_rfl) (fun _ _ _ h => h) (by kernel_rfl) (fun W hW => by have hq := hW.cell_some o2 (fun e => e); go_simp) ((Chg.refl Non _).drew) ?_
  simp only [Act.put, List.setIfInBounds_toArray, List.set_cons_zero, List.set_cons_succ]
  refine h_pure 2 (some 104) (.pointer (some ⟨b, 3, none⟩)) rfl (by kernel_rfl) (by kernel_rfl) (by kernel_rfl) (by kernel_rfl) (fun _ _ _ h => h) (by kernel_rfl) (fun W hW => by go_simp) ((Chg.refl Non _).drew) ?_
  simp only [Act.put, List.setIfInBounds_toArray, List.set_cons_zero, List.set_cons_succ]
  refine h_pure 3 (some 105) (.pointer (some ⟨b, 3 + b2, none⟩)) rfl (by kernel_rfl) (by kernel_rfl) (by kernel_rfl) (by kernel_rfl) (fun _ _ _ h => h) (by kernel_rfl) (fun W hW => by go_simp) ((Chg.refl Non _).drew) ?_
  simp only [Act.put, List.setIfInBounds_toArray, List.set_cons_zero, List.set_cons_succ]
  refine h_pure 4 (some 106) (.int .u32 rb) rfl (by kernel_rfl) (by kernel_rfl) (by kernel_rfl) (by kernel_rfl) (fun _ _ _ h => h) (by kernel_rfl) (fun W hW => by have hq := hW.cell_some hgb (fun e => e); go_simp) ((Chg.refl Non _).drew) ?_
  simp only [Act.put, List.setIfInBounds_toArray, List.set_cons_zero, List.set_cons_succ]
  refine h_pure 5 (some 107) (.int .u64 rb) rfl (by kernel_rfl) (by kernel_rfl) (by kernel_rfl) (by kernel_rfl) (fun _ _ _ h => h) (by kernel_rfl) (fun W hW => by go_simp) ((Chg.refl Non _).drew) ?_
  simp only [Act.put, List.setIfInBounds_toArray, List.set_cons_zero, List.set_cons_succ]
  refine h_pure 6 (some 108) (.pointer (some ⟨ob, 3, none⟩)) rfl (by kernel_rfl) (by kernel_rfl) (by kernel_rfl) (by kernel_rfl) (fun _ _ _ h => h) (by kernel_rfl) (fun W hW => by go_simp) ((Chg.refl Non _).drew) ?_
  simp only [Act.put, List.setIfInBounds_toArray, List.set_cons_zero, List.set_cons_succ]
  refine h_pure 7 (some 109) (.int .u8 cc) rfl (by kernel_rfl) (by kernel_rfl) (by kernel_rfl) (by kernel_rfl) (fun _ _ _ h => h) (by kernel_rfl) (fun W hW => by have hq := hW.cell_some o3 (fun e => e); go_simp) ((Chg.refl Non _).drew) ?_
  simp only [Act.put, List.setIfInBounds_toArray, List.set_cons_zero, List.set_cons_succ]
  refine h_pure 8 (some 110) (.pointer (some ⟨b, 3, none⟩)) rfl (by kernel_rfl) (by kernel_rfl) (by kernel_rfl) (by kernel_rfl) (fun _ _ _ h => h) (by kernel_rfl) (fun W hW => by go_simp) ((Chg.refl Non _).drew) ?_
  simp only [Act.put, List.setIfInBounds_toArray, List.set_cons_zero, List.set_cons_succ]
  refine h_pure 9 (some 111) (.pointer (some ⟨b, 3 + cc, none⟩)) rfl (by kernel_rfl) (by kernel_rfl) (by kernel_rfl) (by kernel_rfl) (fun _ _ _ h => h) (by kernel_rfl) (fun W hW => by go_simp) ((Chg.refl Non _).drew) ?_
  simp only [Act.put, List.setIfInBounds_toArray, List.set_cons_zero, List.set_cons_succ]
  refine h_pure 10 (some 112) (.int .u32 rc) rfl (by kernel_rfl) (by kernel_rfl) (by kernel_rfl) (by kernel_rfl) (fun _ _ _ h => h) (by kernel_rfl) (fun W hW => by have hq := hW.cell_some hgc (fun e => e); go_simp) ((Chg.refl Non _).drew) ?_
  simp only [Act.put, List.setIfInBounds_toArray, List.set_cons_zero, List.set_cons_succ]
  refine h_pure 11 (some 113) (.int .u64 rc) rfl (by kernel_rfl) (by kernel_rfl) (by kernel_rfl) (by kernel_rfl) (fun _ _ _ h => h) (by kernel_rfl) (fun W hW => by go_simp) ((Chg.refl Non _).drew) ?_
  simp only [Act.put, List.setIfInBounds_toArray, List.set_cons_zero, List.set_cons_succ]
  refine h_pure 12 (some 11) (.int .u64 rb) rfl (by kernel_rfl) (by kernel_rfl) (by kernel_rfl) (by kernel_rfl) (fun _ _ _ h => h) (by kernel_rfl) (fun W hW => by go_simp) ((Chg.refl Non _).drew) ?_
  simp only [Act.put, List.setIfInBounds_toArray, List.set_cons_zero, List.set_cons_succ]
  refine h_pure 13 (some 12) (.int .u64 rc) rfl (by kernel_rfl) (by kernel_rfl) (by kernel_rfl) (by kernel_rfl) (fun _ _ _ h => h) (by kernel_rfl) (fun W hW => by go_simp) ((Chg.refl Non _).drew) ?_
  simp only [Act.put, List.setIfInBounds_toArray, List.set_cons_zero, List.set_cons_succ]
  refine wpAnyH_done (by kernel_rfl) ?_ _
  have HS5 := Lib.hid (HS4.out.non ((Chg.refl Non _).drew))
  have HX5 := Lib.hid (blockN ((Chg.refl Non _).drew) HX4.out)
  clear z o0 o1 o2 o3 o4 hgb hgc HS4 HX4 wu0 wu1
  generalize v.drew = x at HS5 HX5 ⊢
  obtain ⟨⟨z, o0, o1, o2, o3, o4⟩, _⟩ := (Blk5.mk HX5.out).all
  have hlt := HS5.out.pb.lt
  go_step
  go_step
  exact HRest.out _ rfl _ b ob A2 c2 x (by kernel_rfl) ⟨HS5.out, HX5.out, hobb⟩
set_option maxRecDepth 100000 in
set_option maxHeartbeats 8000000 in
theorem rMid_jz (p : Pt) (w : World) (hb : p.Bd) (op a b2 cc n rb rc : Nat) (ha8 : a < 8) (hb8 : b2 < 8) (hc8 : cc < 8) (hn16 : n < 65536) (hrb : p.g b2 = rb) (hrc : p.g cc = rc) (R : Ending → World → Prop) (N : List UInt8) (j0 : (N == [106, 109, 112]) = false) (j1 : (N == [106, 122]) = true) (j2 : (N == [106, 110, 122]) = false) (hz : p.g a ≠ 0)
    (hrest : ∀ cd, tailO 10 Tryz.f10.body = some cd → ∀ T b ob A2 c2 v, T = slots16 (fun i => T.getD i undef) w.heap.size b ob rb rc N → At12 w v b ob p A2 c2 op a b2 cc n → cd.wp Tryz.prog (bodyPost Tryz.prog Tryz.f10 R) ⟨T, []⟩ v)
    (cd : Code) (hcd : tailO 8 Tryz.f10.body = some cd) (T : Array Value) (b ob : Nat) (A2 : Option Addr) (c2 : Nat) (v : World) (hT : T = slots12 (fun i => T.getD i undef) w.heap.size b ob N) (h : At12 w v b ob p A2 c2 op a b2 cc n) : cd.wp Tryz.prog (bodyPost Tryz.prog Tryz.f10 R) ⟨T, []⟩ v := by
  have HRest := Lib.hid hrest
  have HS4 := Lib.hid h.st
  have HX4 := Lib.hid h.x
  have hobb := h.lt
  have hrb32 : rb < 4294967296 := by rw [← hrb]; exact hb.rb b2
  have hrc32 : rc < 4294967296 := by rw [← hrc]; exact hb.rb cc
  have hra32 : p.g a < 4294967296 := hb.rb a
  have hai : (a : Int) < 8 := by omega
  obtain ⟨⟨z, o0, o1, o2, o3, o4⟩, _⟩ := (Blk5.mk h.x).all
  have hlt0 := h.st.pb.lt
  have hga := h.st.pb.reg a ha8
  have hzz : ((p.g a : Int) == 0) = false := by rw [beq_eq_false_iff_ne]; omega
  clear hrest h
  generalize (fun i => T.getD i undef) = y at hT
  subst hT
  refine rest_of hcd rfl ?_
  clear hcd cd
  simp only [slots12]
  have hgb := HS4.out.pb.reg b2 hb8
  have hgc := HS4.out.pb.reg cc hc8
  rw [hrb] at hgb
  rw [hrc] at hgc
  have hbi : (b2 : Int) < 8 := by omega
  have hci : (cc : Int) < 8 := by omega
  have wu0 : IntKind.u64.wrap (rb : Int) = (rb : Int) := Go.IntWalk.u64_in _ (by omega)
  have wu1 : IntKind.u64.wrap (rc : Int) = (rc : Int) := Go.IntWalk.u64_in _ (by omega)
  go_wp2_with fail
  refine wp_region_held_drew (S := fun W => Chg Non v W) (by kernel_rfl) ((Chg.refl Non _).drew) (fun hHeld => ?_)
  clear hHeld
  refine h_pure 0 (some 102) (.pointer (some ⟨ob, 2, none⟩)) rfl (by kernel_rfl) (by kernel_rfl) (by kernel_rfl) (by kernel_rfl) (fun _ _ _ h => h) (by kernel_rfl) (fun W hW => by go_simp) ((Chg.refl Non _).drew) ?_
  simp only [Act.put, List.setIfInBounds_toArray, List.set_cons_zero, List.set_cons_succ]
  refine h_pure 1 (some 103) (.int .u8 b2) rfl (by kernel_rfl) (by kernel_rfl) (by kernel_rfl) (by kernel_rfl) (fun _ _ _ h => h) (by kernel_rfl) (fun W hW => by have hq := hW.cell_some o2 (fun e => e); go_simp) ((Chg.refl Non _).drew) ?_
  simp only [Act.put, List.setIfInBounds_toArray, List.set_cons_zero, List.set_cons_succ]
  refine h_pure 2 (some 104) (.pointer (some ⟨b, 3, none⟩)) rfl (by kernel_rfl) (by kernel_rfl) (by kernel_rfl) (by kernel_rfl) (fun _ _ _ h => h) (by kernel_rfl) (fun W hW => by go_simp) ((Chg.refl Non _).drew) ?_
  simp only [Act.put, List.setIfInBounds_toArray, List.set_cons_zero, List.set_cons_succ]
  refine h_pure 3 (some 105) (.pointer (some ⟨b, 3 + b2, none⟩)) rfl (by kernel_rfl) (by kernel_rfl) (by kernel_rfl) (by kernel_rfl) (fun _ _ _ h => h) (by kernel_rfl) (fun W hW => by go_simp) ((Chg.refl Non _).drew) ?_
  simp only [Act.put, List.setIfInBounds_toArray, List.set_cons_zero, List.set_cons_succ]
  refine h_pure 4 (some 106) (.int .u32 rb) rfl (by kernel_rfl) (by kernel_rfl) (by kernel_rfl) (by kernel_rfl) (fun _ _ _ h => h) (by kernel_rfl) (fun W hW => by have hq := hW.cell_some hgb (fun e => e); go_simp) ((Chg.refl Non _).drew) ?_
  simp only [Act.put, List.setIfInBounds_toArray, List.set_cons_zero, List.set_cons_succ]
  refine h_pure 5 (some 107) (.int .u64 rb) rfl (by kernel_rfl) (by kernel_rfl) (by kernel_rfl) (by kernel_rfl) (fun _ _ _ h => h) (by kernel_rfl) (fun W hW => by go_simp) ((Chg.refl Non _).drew) ?_
  simp only [Act.put, List.setIfInBounds_toArray, List.set_cons_zero, List.set_cons_succ]
  refine h_pure 6 (some 108) (.pointer (some ⟨ob, 3, none⟩)) rfl (by kernel_rfl) (by kernel_rfl) (by kernel_rfl) (by kernel_rfl) (fun _ _ _ h => h) (by kernel_rfl) (fun W hW => by go_simp) ((Chg.refl Non _).drew) ?_
  simp only [Act.put, List.setIfInBounds_toArray, List.set_cons_zero, List.set_cons_succ]
  refine h_pure 7 (some 109) (.int .u8 cc) rfl (by kernel_rfl) (by kernel_rfl) (by kernel_rfl) (by kernel_rfl) (fun _ _ _ h => h) (by kernel_rfl) (fun W hW => by have hq := hW.cell_some o3 (fun e => e); go_simp) ((Chg.refl Non _).drew) ?_
  simp only [Act.put, List.setIfInBounds_toArray, List.set_cons_zero, List.set_cons_succ]
  refine h_pure 8 (some 110) (.pointer (some ⟨b, 3, none⟩)) rfl (by kernel_rfl) (by kernel_rfl) (by kernel_rfl) (by kernel_rfl) (fun _ _ _ h => h) (by kernel_rfl) (fun W hW => by go_simp) ((Chg.refl Non _).drew) ?_
  simp only [Act.put, List.setIfInBounds_toArray, List.set_cons_zero, List.set_cons_succ]
  refine h_pure 9 (some 111) (.pointer (some ⟨b, 3 + cc, none⟩)) rfl (by kernel_rfl) (by kernel_rfl) (by kernel_rfl) (by kernel_rfl) (fun _ _ _ h => h) (by kernel_rfl) (fun W hW => by go_simp) ((Chg.refl Non _).drew) ?_
  simp only [Act.put, List.setIfInBounds_toArray, List.set_cons_zero, List.set_cons_succ]
  refine h_pure 10 (some 112) (.int .u32 rc) rfl (by kernel_rfl) (by kernel_rfl) (by kernel_rfl) (by kernel_rfl) (fun _ _ _ h => h) (by kernel_rfl) (fun W hW => by have hq := hW.cell_some hgc (fun e => e); go_simp) ((Chg.refl Non _).drew) ?_
  simp only [Act.put, List.setIfInBounds_toArray, List.set_cons_zero, List.set_cons_succ]
  refine h_pure 11 (some 113) (.int .u64 rc) rfl (by kernel_rfl) (by kernel_rfl) (by kernel_rfl) (by kernel_rfl) (fun _ _ _ h => h) (by kernel_rfl) (fun W hW => by go_simp) ((Chg.refl Non _).drew) ?_
  simp only [Act.put, List.setIfInBounds_toArray, List.set_cons_zero, List.set_cons_succ]
  refine h_pure 12 (some 11) (.int .u64 rb) rfl (by kernel_rfl) (by kernel_rfl) (by kernel_rfl) (by kernel_rfl) (fun _ _ _ h => h) (by kernel_rfl) (fun W hW => by go_simp) ((Chg.refl Non _).drew) ?_
  simp only [Act.put, List.setIfInBounds_toArray, List.set_cons_zero, List.set_cons_succ]
  refine h_pure 13 (some 12) (.int .u64 rc) rfl (by kernel_rfl) (by kernel_rfl) (by kernel_rfl) (by kernel_rfl) (fun _ _ _ h => h) (by kernel_rfl) (fun W hW => by go_simp) ((Chg.refl Non _).drew) ?_
  simp only [Act.put, List.setIfInBounds_toArray, List.set_cons_zero, List.set_cons_succ]
  refine wpAnyH_done (by kernel_rfl) ?_ _
  have HS5 := Lib.hid (HS4.out.non ((Chg.refl Non _).drew))
  have HX5 := Lib.hid (blockN ((Chg.refl Non _).drew) HX4.out)
  clear z o0 o1 o2 o3 o4 hgb hgc HS4 HX4 wu0 wu1
  generalize v.drew = x at HS5 HX5 ⊢
  obtain ⟨⟨z, o0, o1, o2, o3, o4⟩, _⟩ := (Blk5.mk HX5.out).all
  have hlt := HS5.out.pb.lt
  go_step
  go_step
  exact HRest.out _ rfl _ b ob A2 c2 x (by kernel_rfl) ⟨HS5.out, HX5.out, hobb⟩
set_option maxRecDepth 100000 in
set_option maxHeartbeats 8000000 in
theorem rMid_jnz (p : Pt) (w : World) (hb : p.Bd) (op a b2 cc n rb rc : Nat) (ha8 : a < 8) (hb8 : b2 < 8) (hc8 : cc < 8) (hn16 : n < 65536) (hrb : p.g b2 = rb) (hrc : p.g cc = rc) (R : Ending → World → Prop) (N : List UInt8) (j0 : (N == [106, 109, 112]) = false) (j1 : (N == [106, 122]) = false) (j2 : (N == [106, 110, 122]) = true) (hz : p.g a = 0)
    (hrest : ∀ cd, tailO 10 Tryz.f10.body = some cd → ∀ T b ob A2 c2 v, T = slots16 (fun i => T.getD i undef) w.heap.size b ob rb rc N → At12 w v b ob p A2 c2 op a b2 cc n → cd.wp Tryz.prog (bodyPost Tryz.prog Tryz.f10 R) ⟨T, []⟩ v)
    (cd : Code) (hcd : tailO 8 Tryz.f10.body = some cd) (T : Array Value) (b ob : Nat) (A2 : Option Addr) (c2 : Nat) (v : World) (hT : T = slots12 (fun i => T.getD i undef) w.heap.size b ob N) (h : At12 w v b ob p A2 c2 op a b2 cc n) : cd.wp Tryz.prog (bodyPost Tryz.prog Tryz.f10 R) ⟨T, []⟩ v := by
  have HRest := Lib.hid hrest
  have HS4 := Lib.hid h.st
  have HX4 := Lib.hid h.x
  have hobb := h.lt
  have hrb32 : rb < 4294967296 := by rw [← hrb]; exact hb.rb b2
  have hrc32 : rc < 4294967296 := by rw [← hrc]; exact hb.rb cc
  have hra32 : p.g a < 4294967296 := hb.rb a
  have hai : (a : Int) < 8 := by omega
  obtain ⟨⟨z, o0, o1, o2, o3, o4⟩, _⟩ := (Blk5.mk h.x).all
  have hlt0 := h.st.pb.lt
  have hga := h.st.pb.reg a ha8
  have hzz : ((p.g a : Int) != 0) = false := by rw [hz]; rfl
  clear hrest h
  generalize (fun i => T.getD i undef) = y at hT
  subst hT
  refine rest_of hcd rfl ?_
  clear hcd cd
  simp only [slots12]
  have hgb := HS4.out.pb.reg b2 hb8
  have hgc := HS4.out.pb.reg cc hc8
  rw [hrb] at hgb
  rw [hrc] at hgc
  have hbi : (b2 : Int) < 8 := by omega
  have hci : (cc : Int) < 8 := by omega
  have wu0 : IntKind.u64.wrap (rb : Int) = (rb : Int) := Go.IntWalk.u64_in _ (by omega)
  have wu1 : IntKind.u64.wrap (rc : Int) = (rc : Int) := Go.IntWalk.u64_in _ (by omega)
  go_wp2_with fail
  refine wp_region_held_drew (S := fun W => Chg Non v W) (by kernel_rfl) ((Chg.refl Non _).drew) (fun hHeld => ?_)
  clear hHeld
  refine h_pure 0 (some 102) (.pointer (some ⟨ob, 2, none⟩)) rfl (by kernel_rfl) (by kernel_rfl) (by kernel_rfl) (by kernel_rfl) (fun _ _ _ h => h) (by kernel_rfl) (fun W hW => by go_simp) ((Chg.refl Non _).drew) ?_
  simp only [Act.put, List.setIfInBounds_toArray, List.set_cons_zero, List.set_cons_succ]
  refine h_pure 1 (some 103) (.int .u8 b2) rfl (by kernel_rfl) (by kernel_rfl) (by kernel_rfl) (by kernel_rfl) (fun _ _ _ h => h) (by kernel_rfl) (fun W hW => by have hq := hW.cell_some o2 (fun e => e); go_simp) ((Chg.refl Non _).drew) ?_
  simp only [Act.put, List.setIfInBounds_toArray, List.set_cons_zero, List.set_cons_succ]
  refine h_pure 2 (some 104) (.pointer (some ⟨b, 3, none⟩)) rfl (by kernel_rfl) (by kernel_rfl) (by kernel_rfl) (by kernel_rfl) (fun _ _ _ h => h) (by kernel_rfl) (fun W hW => by go_simp) ((Chg.refl Non _).drew) ?_
  simp only [Act.put, List.setIfInBounds_toArray, List.set_cons_zero, List.set_cons_succ]
  refine h_pure 3 (some 105) (.pointer (some ⟨b, 3 + b2, none⟩)) rfl (by kernel_rfl) (by kernel_rfl) (by kernel_rfl) (by kernel_rfl) (fun _ _ _ h => h) (by kernel_rfl) (fun W hW => by go_simp) ((Chg.refl Non _).drew) ?_
  simp only [Act.put, List.setIfInBounds_toArray, List.set_cons_zero, List.set_cons_succ]
  refine h_pure 4 (some 106) (.int .u32 rb) rfl (by kernel_rfl) (by kernel_rfl) (by kernel_rfl) (by kernel_rfl) (fun _ _ _ h => h) (by kernel_rfl) (fun W hW => by have hq := hW.cell_some hgb (fun e => e); go_simp) ((Chg.refl Non _).drew) ?_
  simp only [Act.put, List.setIfInBounds_toArray, List.set_cons_zero, List.set_cons_succ]
  refine h_pure 5 (some 107) (.int .u64 rb) rfl (by kernel_rfl) (by kernel_rfl) (by kernel_rfl) (by kernel_rfl) (fun _ _ _ h => h) (by kernel_rfl) (fun W hW => by go_simp) ((Chg.refl Non _).drew) ?_
  simp only [Act.put, List.setIfInBounds_toArray, List.set_cons_zero, List.set_cons_succ]
  refine h_pure 6 (some 108) (.pointer (some ⟨ob, 3, none⟩)) rfl (by kernel_rfl) (by kernel_rfl) (by kernel_rfl) (by kernel_rfl) (fun _ _ _ h => h) (by kernel_rfl) (fun W hW => by go_simp) ((Chg.refl Non _).drew) ?_
  simp only [Act.put, List.setIfInBounds_toArray, List.set_cons_zero, List.set_cons_succ]
  refine h_pure 7 (some 109) (.int .u8 cc) rfl (by kernel_rfl) (by kernel_rfl) (by kernel_rfl) (by kernel_rfl) (fun _ _ _ h => h) (by kernel_rfl) (fun W hW => by have hq := hW.cell_some o3 (fun e => e); go_simp) ((Chg.refl Non _).drew) ?_
  simp only [Act.put, List.setIfInBounds_toArray, List.set_cons_zero, List.set_cons_succ]
  refine h_pure 8 (some 110) (.pointer (some ⟨b, 3, none⟩)) rfl (by kernel_rfl) (by kernel_rfl) (by kernel_rfl) (by kernel_rfl) (fun _ _ _ h => h) (by kernel_rfl) (fun W hW => by go_simp) ((Chg.refl Non _).drew) ?_
  simp only [Act.put, List.setIfInBounds_toArray, List.set_cons_zero, List.set_cons_succ]
  refine h_pure 9 (some 111) (.pointer (some ⟨b, 3 + cc, none⟩)) rfl (by kernel_rfl) (by kernel_rfl) (by kernel_rfl) (by kernel_rfl) (fun _ _ _ h => h) (by kernel_rfl) (fun W hW => by go_simp) ((Chg.refl Non _).drew) ?_
  simp only [Act.put, List.setIfInBounds_toArray, List.set_cons_zero, List.set_cons_succ]
  refine h_pure 10 (some 112) (.int .u32 rc) rfl (by kernel_rfl) (by kernel_rfl) (by kernel_rfl) (by kernel_rfl) (fun _ _ _ h => h) (by kernel_rfl) (fun W hW => by have hq := hW.cell_some hgc (fun e => e); go_simp) ((Chg.refl Non _).drew) ?_
  simp only [Act.put, List.setIfInBounds_toArray, List.set_cons_zero, List.set_cons_succ]
  refine h_pure 11 (some 113) (.int .u64 rc) rfl (by kernel_rfl) (by kernel_rfl) (by kernel_rfl) (by kernel_rfl) (fun _ _ _ h => h) (by kernel_rfl) (fun W hW => by go_simp) ((Chg.refl Non _).drew) ?_
  simp only [Act.put, List.setIfInBounds_toArray, List.set_cons_zero, List.set_cons_succ]
  refine h_pure 12 (some 11) (.int .u64 rb) rfl (by kernel_rfl) (by kernel_rfl) (by kernel_rfl) (by kernel_rfl) (fun _ _ _ h => h) (by kernel_rfl) (fun W hW => by go_simp) ((Chg.refl Non _).drew) ?_
  simp only [Act.put, List.setIfInBounds_toArray, List.set_cons_zero, List.set_cons_succ]
  refine h_pure 13 (some 12) (.int .u64 rc) rfl (by kernel_rfl) (by kernel_rfl) (by kernel_rfl) (by kernel_rfl) (fun _ _ _ h => h) (by kernel_rfl) (fun W hW => by go_simp) ((Chg.refl Non _).drew) ?_
  simp only [Act.put, List.setIfInBounds_toArray, List.set_cons_zero, List.set_cons_succ]
  refine wpAnyH_done (by kernel_rfl) ?_ _
  have HS5 := Lib.hid (HS4.out.non ((Chg.refl Non _).drew))
  have HX5 := Lib.hid (blockN ((Chg.refl Non _).drew) HX4.out)
  clear z o0 o1 o2 o3 o4 hgb hgc HS4 HX4 wu0 wu1
  generalize v.drew = x at HS5 HX5 ⊢
  obtain ⟨⟨z, o0, o1, o2, o3, o4⟩, _⟩ := (Blk5.mk HX5.out).all
  have hlt := HS5.out.pb.lt
  go_step
  go_step
  exact HRest.out _ rfl _ b ob A2 c2 x (by kernel_rfl) ⟨HS5.out, HX5.out, hobb⟩
end Go.Proofs.YtpcmnphohneddaaGreatDoor
