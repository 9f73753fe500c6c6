/- KernelTime, part 24 of 28: contracts of the functions that it reaches, and the laws that they need, merged and shortened (from my texts XDo). -/
import Derived.Test.YtmnaleaghfbclaaGreatDoorMgKernelTimeA
import Derived.Test.YtmnaleaghfbclaaGreatDoorMgKernelTimeW
namespace Go.Proofs.YtmnaleaghfbclaaGreatDoor
set_option linter.unusedVariables false
set_option linter.unusedSimpArgs false
set_option maxHeartbeats 8000000
section
open Go.RowKit
set_option maxRecDepth 100000 in
theorem do_ok (J : Nat → Prop) (n : Int) (p : Pt) (wl : Wld) (A : Option Addr) (c : Nat) (vq vi : Value) (w : World) (hb : p.Bd) (hst : p.st = 0) (hm0 : 0 < p.mem.length) (hml : p.mem.length ≤ 512) (hc : p.mem.length ≤ c) (hcm : c ≤ maxLen) (hr : Rd w A p.mem)
  (hqs : SlV (quV J) J 6 w wl.qs vq) (hi : BytesV J w wl.inp vi) (hql : wl.qs.length ≤ 1000) (hil : wl.inp.length ≤ 1000) (hqm : ∀ q ∈ wl.qs, mayQ q = true) (hf : I64 wl.frames) (ht : I64 wl.tick) (hv : I64 wl.ver) :
  Calls Tryz.prog 231 #[.int .i64 n, .agg (partC p (.slice A p.mem.length c)), .agg #[.int .i64 wl.frames, .int .i64 wl.tick, .int .i64 wl.ver, vq, vi]] w (DoP w (doV n p wl).1 (doV n p wl).2.1 (doV n p wl).2.2) := by
 have HR := Lib.hid hr
 have HQ := Lib.hid hqs
 have HI := Lib.hid hi
 have HQM := Lib.hid hqm
 have hml4 : ∀ a ∈ wl.qs, a.msgs.length ≤ 1000 := fun a ha => by
  obtain ⟨h1, h2, h3⟩ := mayQ_iff.1 (hqm a ha)
  have := ch_may h1
  omega
 obtain ⟨C, hC⟩ : ∃ C, partC p (.slice A p.mem.length c) = C := ⟨_, rfl⟩
 have hco := HI.out
 obtain ⟨Ai, ci, rfl, hci, hcim, _⟩ := hco
 obtain ⟨Aq, cq, rfl, hcq, hcqm, _⟩ := HQ.out
 rw [hC]
 clear hr hqs hi hqm
 go_enter Tryz.func231, Tryz.ntmps231
 go_wp2_with (refine sel (some 14) (.load _ _) ?_; refine Vm_stop ?_)
 have hg0 : Chg Non w ((((w.alloc (.cells C 69)).alloc (.cells #[.int .i64 wl.frames, .int .i64 wl.tick, .int .i64 wl.ver, .slice Aq wl.qs.length cq, .slice Ai wl.inp.length ci] 313)).alloc (.cells #[.int .i64 0, .int .i64 0, .bool false, .int .u32 0, .int .u32 0, .int .u32 0, .int .u32 0, .int .u32 0, .int .u32 0, .int .u32 0, .int .u32 0, .int .u32 0, .int .u8 0, .slice none 0 0] 69)).alloc (.cells #[.int .i64 0, .int .i64 0, .int .i64 0, .slice none 0 0, .slice none 0 0] 313)) := ((((Chg.refl Non w).alloc _).alloc _).alloc _).alloc _
 have HB : Hid (∀ W, Chg Non ((((w.alloc (.cells C 69)).alloc (.cells #[.int .i64 wl.frames, .int .i64 wl.tick, .int .i64 wl.ver, .slice Aq wl.qs.length cq, .slice Ai wl.inp.length ci] 313)).alloc (.cells #[.int .i64 0, .int .i64 0, .bool false, .int .u32 0, .int .u32 0, .int .u32 0, .int .u32 0, .int .u32 0, .int .u32 0, .int .u32 0, .int .u32 0, .int .u32 0, .int .u8 0, .slice none 0 0] 69)).alloc (.cells #[.int .i64 0, .int .i64 0, .int .i64 0, .slice none 0 0, .slice none 0 0] 313)) W → W.heap[w.heap.size]? = some (.cells C 69 (0, 0)) ∧ W.heap[w.heap.size + 1]? = some (.cells #[.int .i64 wl.frames, .int .i64 wl.tick, .int .i64 wl.ver, .slice Aq wl.qs.length cq, .slice Ai wl.inp.length ci] 313 (0, 0)) ∧ W.heap[w.heap.size + 2]? = some (.cells #[.int .i64 0, .int .i64 0, .bool false, .int .u32 0, .int .u32 0, .int .u32 0, .int .u32 0, .int .u32 0, .int .u32 0, .int .u32 0, .int .u32 0, .int .u32 0, .int .u8 0, .slice none 0 0] 69 (0, 0)) ∧ W.heap[w.heap.size + 3]? = some (.cells #[.int .i64 0, .int .i64 0, .int .i64 0, .slice none 0 0, .slice none 0 0] 313 (0, 0))) := Lib.hid (fun W hg => by
   obtain ⟨h1, h2, h3, _, _⟩ := blk_call3 (((Chg.refl Non _).alloc _).then_non hg)
   have h4 := blk_call hg
   exact ⟨h1, h2, h3, by simpa using h4⟩)
 refine HoleV.mk ?_
 generalize ((((w.alloc (.cells C 69)).alloc (.cells #[.int .i64 wl.frames, .int .i64 wl.tick, .int .i64 wl.ver, .slice Aq wl.qs.length cq, .slice Ai wl.inp.length ci] 313)).alloc (.cells #[.int .i64 0, .int .i64 0, .bool false, .int .u32 0, .int .u32 0, .int .u32 0, .int .u32 0, .int .u32 0, .int .u32 0, .int .u32 0, .int .u32 0, .int .u32 0, .int .u8 0, .slice none 0 0] 69)).alloc (.cells #[.int .i64 0, .int .i64 0, .int .i64 0, .slice none 0 0, .slice none 0 0] 313)) = W0 at HB hg0 ⊢
 obtain ⟨h0, h1, _, _⟩ := HB.out _ (Chg.refl _ _)
 have c12 : W0.cell? ⟨w.heap.size, 12, none⟩ = some (.int .u8 0) := by
  have := blk_cell h0 12 (v := .int .u8 (p.st : Nat)) (by rw [← hC]; exact partC_end hb.r8 _ 1 (by omega))
  rwa [hst] at this
 have c13 : W0.cell? ⟨w.heap.size, 13, none⟩ = some (.slice A p.mem.length c) := blk_cell h0 13 (by rw [← hC]; exact partC_end hb.r8 _ 2 (by omega))
 have c3 : W0.cell? ⟨w.heap.size + 1, 3, none⟩ = some (.slice Aq wl.qs.length cq) := blk_cell h1 3 rfl
 have b1 : decide ((p.mem.length : Int) > 512) = false := by simp; omega
 have hHA := anyDo (quV J) J quV_non (fun q => !mayQ q) Aq wl.qs cq W0 (by
   obtain ⟨A', c', e, _, _, hr⟩ := HQ.out
   injection e with e _ _
   subst e
   exact hr.non hg0 (fun a vs h => quV_non _ _ _ _ hg0 h)) (by
   rintro W' a vs hg2 ha ⟨m, rfl, hsl, _⟩
   exact do1_ok J a m W' hsl) hcq hcqm
 rw [show (wl.qs.any fun q => !mayQ q) = false from by rw [List.any_eq_false]; intro q hq; rw [HQM.out q hq]; decide] at hHA
 have HAny := Lib.hid hHA
 have HG0 := Lib.hid hg0
 clear h0 h1 hHA hg0
 go_wp2_with fail
 refine HAny.out.mono ?_
 rintro e u ⟨rfl, hg⟩
 have HGu := Lib.hid hg
 clear hg c12 c13 c3 HAny
 go_wp2_with fail
 have hgv : Chg Non W0 u.drew := HGu.out.drew
 refine wp_region_held_drew (S := Chg Non u.drew) (by kernel_rfl) (Chg.refl _ _) (fun hHeld => ?_)
 clear hHeld HGu
 generalize u.drew = v at hgv ⊢
 have HGv := Lib.hid (HG0.out.then_non hgv)
 obtain ⟨h0, h1, h2, h3⟩ := HB.out _ hgv
 subst hC
 have HB0v := Lib.hid h0
 have HB1v := Lib.hid h1
 have HR2v := Lib.hid h2
 have HR3v := Lib.hid h3
 have HRv := Lib.hid (HR.out.non HGv.out)
 have HQv := Lib.hid (HQ.out.non HGv.out (fun a vs h => quV_non _ _ _ _ HGv.out h))
 have HIv := Lib.hid (HI.out.non HGv.out)
 have hvs : w.heap.size + 4 ≤ v.heap.size := by have := blk_lt h3; omega
 clear h0 h1 h2 h3 hgv HB HG0
 refine h_load 0 (some 30) 69 (.tmp 4) w.heap.size 0 (partC p (.slice A p.mem.length c)) _ rfl (by kernel_rfl) (by kernel_rfl) (by kernel_rfl) (by kernel_rfl) (by kernel_rfl) (fun _ _ _ h => h) (by kernel_rfl) (by kernel_rfl) (fun W hW => range_keepS (blk_range HB0v.out) hW (fun e => e)) Tryz.underlying69 rfl (by rw [partC_size hb.r8]; exact info_part) (Chg.refl _ _) ?_
 simp only [Act.put, sA, sB, sC]
 refine h_load 2 (some 32) 313 (.tmp 5) (w.heap.size + 1) 0 #[.int .i64 wl.frames, .int .i64 wl.tick, .int .i64 wl.ver, .slice Aq wl.qs.length cq, .slice Ai wl.inp.length ci] _ rfl (by kernel_rfl) (by kernel_rfl) (by kernel_rfl) (by kernel_rfl) (by kernel_rfl) (fun _ _ _ h => h) (by kernel_rfl) (by kernel_rfl) (fun W hW => range_keepS (blk_range HB1v.out) hW (fun e => e)) Tryz.underlying313 rfl (by kernel_rfl) (Chg.refl _ _) ?_
 simp only [Act.put, sA, sB, sC]
 refine h_one 1 (by kernel_rfl) rfl (by kernel_rfl) ?_
 intro K hK
 go_simp
 refine (Copy_ok p A p.mem c v hb.r8 HRv.out (by omega)).mono ?_
 rintro e u1 ⟨A6, c6, rfl, q1, q2, q3, hg⟩
 have HG1 := Lib.hid hg
 have HQ3 := Lib.hid q3
 clear hg q3
 refine hK.out _ _ HG1.out (fun _ => ?_)
 clear hK K
 try simp only [Act.put, sA, sB, sC]
 refine h_one 3 (by kernel_rfl) rfl (by kernel_rfl) ?_
 intro K hK
 go_simp
 refine (hcopy_ok _ u1 ⟨0, [], wl.qs⟩ wl.frames wl.tick wl.ver wl.inp (.slice Aq wl.qs.length cq) (.slice Ai wl.inp.length ci) (HQv.out.non HG1.out (fun a vs h => quV_non _ _ _ _ HG1.out h)) (HIv.out.non HG1.out) hql (by omega) hml4).mono ?_
 rintro e u3 ⟨vq2, vi2, rfl, hwo, hg⟩
 have HG3 := Lib.hid (HG1.out.then_non hg)
 have HG13 := Lib.hid hg
 have HWO := Lib.hid hwo
 clear hg hwo
 refine hK.out _ _ HG3.out (fun _ => ?_)
 clear hK K
 try simp only [Act.put, sA, sB, sC]
 refine hp 4 34 (.agg (callerC p (.slice A6 p.mem.length c6) wl vq2 vi2 false)) rfl HG3.out ?_ (he := (fun W hW => exec_build rfl (by kernel_rfl) (build_caller p (.slice A6 p.mem.length c6) wl vq2 vi2 hb.r8 W)))
 refine h_one 5 (by kernel_rfl) rfl (by kernel_rfl) ?_
 intro K hK
 go_simp
 refine hK.out _ _ (HG3.out.alloc _) (fun _ => ?_)
 clear hK K
 try simp only [Act.put, sA, sB, sC]
 refine hp 6 11 (.pointer (some ⟨u3.heap.size, 0, none⟩)) rfl (HG3.out.alloc _) ?_
 refine wpAnyH_done (by kernel_rfl) ?_ _
 have hu13 := HG13.out.size
 have hv1 := HG1.out.size
 obtain ⟨g, hg⟩ : ∃ g, g = u3.heap.size := ⟨_, rfl⟩
 have hqge : ∀ b, vq2.ownBlock = some b → u1.heap.size ≤ b ∧ b < u3.heap.size := fun b e => HWO.out.qs.ge e
 obtain ⟨B, hB⟩ : ∃ B, B = v.heap.size := ⟨_, rfl⟩
 have HX5 : Hid (CalX B (u3.alloc (.cells (callerC p (.slice A6 p.mem.length c6) wl vq2 vi2 false) 329)) g p wl false (.slice A6 p.mem.length c6) vq2 vi2) := Lib.hid (by
   subst hg hB
   have ha : Chg Non u3 (u3.alloc (.cells (callerC p (.slice A6 p.mem.length c6) wl vq2 vi2 false) 329)) := (Chg.refl Non u3).alloc _
   refine ⟨blk_new _ _, hb, ?_, ?_, ?_, by omega, fun e => by have := hqge _ e; omega⟩
   · refine (((own_bytes HQ3.out q1 q2).bound.non HG13.out).non ha).mono (fun b e => ?_)
     have e1 : v.heap.size ≤ b := e.1
     have e2 := e.2
     exact ⟨e1, by omega, fun e3 => by have := hqge _ e3; omega⟩
   · refine (((HWO.out.qs.base (B' := v.heap.size) (by omega)).mono (fun _ _ h => h.bound.mono (fun b e => ?_))).non ha (fun _ _ h => h.keep ha (fun _ _ e => e)))
     have e1 := e.1.1
     have e2 := e.2
     exact ⟨by omega, by omega, e.1.2⟩
   · refine (HWO.out.inp.bound.non ha).mono (fun b e => ?_)
     have e1 := e.1.1
     have e2 := e.2
     exact ⟨by omega, by omega, e.1.2⟩)
 have HG5 : Hid (Chg Non v (u3.alloc (.cells (callerC p (.slice A6 p.mem.length c6) wl vq2 vi2 false) 329))) := Lib.hid (HG3.out.alloc _)
 rw [← hg]
 have hB4 : w.heap.size + 4 ≤ B := by omega
 have hgB : B ≤ g := by omega
 have HBe := Lib.hid hB
 generalize u3.alloc (.cells (callerC p (.slice A6 p.mem.length c6) wl vq2 vi2 false) 329) = w5 at HX5 HG5 ⊢
 clear hg hu13 hv1 hqge HQ3 HG13 HG1 HG3 HWO HRv HQv HIv HR HQ HI hB
 go_wp2_with fail
 refine (calls_ok g w5).mono ?_
 rintro e u5 ⟨rfl, hg5⟩
 have HX6 := Lib.hid (HX5.out.non hg5)
 have HG6 := Lib.hid (HG5.out.then_non hg5)
 clear hg5
 go_wp2_with (refine sel none (.store 332 (.tmp 12) (.tmp 37)) ?_
              refine wpList_store_rowA rfl 332 (.tmp 12) (.tmp 37) rfl u5.heap.size (callCells g) rfl rfl 332 _ (blk_new u5 _) (by kernel_rfl) rfl (by simp [callCells, Value.oneCell']) ?_
              refine Vm_stop ?_)
 refine HoleV.mk ?_
 intro W6 hgW hbW
 have hg56 : Chg Non u5 W6 := ((Chg.refl Non u5).alloc _).then_new hgW (fun x e => by omega)
 have HX := Lib.hid (HX6.out.non hg56)
 have HGw := Lib.hid (HGv.out.then_non (HG6.out.then_non hg56))
 have HY := Lib.hid hbW
 have HR2z := Lib.hid (blk_keep HR2v.out (HG6.out.then_non hg56) (fun e => e))
 have HR3z := Lib.hid (blk_keep HR3v.out (HG6.out.then_non hg56) (fun e => e))
 have HYg : Hid (∃ y, y = u5.heap.size) := Lib.hid ⟨_, rfl⟩
 have hgl := HX.out.lt
 clear hg56 hgW hbW HX5 HG5 HX6 HG6 HGv HB0v HB1v HR2v HR3v
 obtain ⟨y, hy⟩ : ∃ y, u5.heap.size = y := ⟨_, rfl⟩
 rw [hy] at HY ⊢
 clear hy
 by_cases h0 : n < 0
 ·have d0 : decide (n < 0) = true := by simpa using h0
  have HE : Hid (doV n p wl = ({ p with st := 4 }, wl, false)) := Lib.hid (by
    unfold doV
    rw [if_neg (by omega), if_neg (by omega), if_neg (by omega), if_neg (by omega), if_neg (by omega), if_neg (by omega), if_neg (by omega)])
  have cst := HX.out.cst
  have z12 := HX.out.free 12
  have HX7 := Lib.hid (HX.out.setSt 4 (by omega))
  have HG7 := Lib.hid (HGw.out.then_new (chg_own (i := 12) (u := .int .u8 4) hgB : Chg (From B) W6 _) (fun x e => by have : B ≤ x := e; omega))
  have hr7 := (chg_own (i := 12) (u := .int .u8 4) hgB : Chg (From B) W6 _)
  have HR2z := Lib.hid (blk_keep HR2z.out hr7 (fun e => by have : B ≤ _ := e; omega))
  have HR3z := Lib.hid (blk_keep HR3z.out hr7 (fun e => by have : B ≤ _ := e; omega))
  clear hr7
  go_wp2_with fail
  generalize W6.setCell ⟨g, 12, none⟩ (.int .u8 4) = Z at HX7 HG7 HR2z HR3z ⊢
  clear cst z12
  obtain ⟨m9, vq9, vi9, hx9⟩ : ∃ m vq vi, CalX B Z g ({ p with st := 4 }) (wl) false m vq vi := ⟨_, _, _, HX7.out⟩
  have HXd := Lib.hid (hx9.non ((Chg.refl Non Z).drew))
  have ho9 : m9.oneCell' = true := by obtain ⟨A, c, e, _⟩ := hx9.mem; rw [e]; rfl
  have hoq9 : vq9.oneCell' = true := by obtain ⟨A, c, e, _⟩ := hx9.qs.rd; rw [e]; rfl
  have hoi9 : vi9.oneCell' = true := by obtain ⟨A, c, e, _⟩ := hx9.inp; rw [e]; rfl
  have c19 : World.cell? (Z).drew ⟨g, 19, none⟩ = some (.bool false) := HXd.out.chi 5 rfl
  have hng : ¬ ((⟨g, 19, none⟩ : Addr).block = w.heap.size + 2 ∨ (⟨g, 19, none⟩ : Addr).block = w.heap.size + 3) := fun e => by simp only at e; omega
  have HGz := Lib.hid ((HG7.out).drew)
  have HR2 : Hid ((Z).drew.heap[w.heap.size + 2]? = some (.cells #[.int .i64 0, .int .i64 0, .bool false, .int .u32 0, .int .u32 0, .int .u32 0, .int .u32 0, .int .u32 0, .int .u32 0, .int .u32 0, .int .u32 0, .int .u32 0, .int .u8 0, .slice none 0 0] 69 (0, 0))) := HR2z
  have HR3 : Hid ((Z).drew.heap[w.heap.size + 3]? = some (.cells #[.int .i64 0, .int .i64 0, .int .i64 0, .slice none 0 0, .slice none 0 0] 313 (0, 0))) := HR3z
  refine wp_region_held_drew (S := Chg (fun b => b = w.heap.size + 2 ∨ b = w.heap.size + 3) (Z).drew) (by kernel_rfl) (Chg.refl _ _) (fun hHeld => ?_)
  clear hHeld hx9
  refine hp 0 56 (.pointer (some ⟨g, 0, none⟩)) rfl ((Chg.refl _ _)) ?_
  refine hp 1 57 (.pointer (some ⟨g, 0, none⟩)) rfl ((Chg.refl _ _)) ?_
  refine hp 2 58 (.pointer (some ⟨g, 0, none⟩)) rfl ((Chg.refl _ _)) ?_
  refine h_load 3 (some 59) 69 (.tmp 58) g 0 _ _ rfl (by kernel_rfl) (by kernel_rfl) (by kernel_rfl) (by kernel_rfl) (by kernel_rfl) (fun _ _ _ h => h) (by kernel_rfl) (by kernel_rfl) (fun W hW => range_keepS HXd.out.rangeP hW (by omega)) Tryz.underlying69 rfl (by rw [partC_size HXd.out.r8]; exact info_part) ((Chg.refl _ _)) ?_
  simp only [Act.put, sA, sB, sC]
  refine hp 4 60 (.pointer (some ⟨g, 0, none⟩)) rfl ((Chg.refl _ _)) ?_
  refine hp 5 61 (.pointer (some ⟨g, 0, none⟩)) rfl ((Chg.refl _ _)) ?_
  refine hp 6 62 (.pointer (some ⟨g, 14, none⟩)) rfl ((Chg.refl _ _)) ?_
  refine h_load 7 (some 63) 313 (.tmp 62) g 14 #[.int .i64 (wl).frames, .int .i64 (wl).tick, .int .i64 (wl).ver, vq9, vi9] _ rfl (by kernel_rfl) (by kernel_rfl) (by kernel_rfl) (by kernel_rfl) (by kernel_rfl) (fun _ _ _ h => h) (by kernel_rfl) (by kernel_rfl) (fun W hW => range_keepS HXd.out.rangeW hW (by omega)) Tryz.underlying313 rfl (by kernel_rfl) ((Chg.refl _ _)) ?_
  simp only [Act.put, sA, sB, sC]
  refine hp 8 64 (.pointer (some ⟨g, 0, none⟩)) rfl ((Chg.refl _ _)) ?_
  refine hp 9 65 (.pointer (some ⟨g, 0, none⟩)) rfl ((Chg.refl _ _)) ?_
  refine hp 10 66 (.pointer (some ⟨g, 19, none⟩)) rfl ((Chg.refl _ _)) ?_
  refine hp 11 67 (.bool false) rfl ((Chg.refl _ _)) ?_ (he := (fun W hW => by have hc := hW.cell_some c19 hng; go_simp))
  refine h_store 12 69 (.tmp 6) (.tmp 59) (w.heap.size + 2) (partC ({ p with st := 4 }) m9) (by kernel_rfl) rfl (by kernel_rfl) rfl rfl rfl rfl 69 ⟨_, HR2.out, by rw [partC_size HXd.out.r8]; rfl⟩ (by rw [partC_size HXd.out.r8]; exact info_part) (partC_one _ _ ho9) (fun W hg hb => hg.mono (fun x e => .inl e)) ?_
  intro W1 hgW1 hbW1
  have HR3' := Lib.hid (blk_keep HR3.out hgW1 (fun e => by omega))
  refine h_store 13 313 (.tmp 7) (.tmp 63) (w.heap.size + 3) #[.int .i64 (wl).frames, .int .i64 (wl).tick, .int .i64 (wl).ver, vq9, vi9] (by kernel_rfl) rfl (by kernel_rfl) rfl rfl rfl rfl 313 ⟨_, HR3'.out, rfl⟩ (by kernel_rfl) (by simp [Value.oneCell']; exact ⟨hoq9, hoi9⟩) (fun W hg hb => (hgW1.mono (fun x e => .inl e)).trans_same (hg.mono (fun x e => .inr e))) ?_
  intro W2 hgW2 hbW2
  have HGR : Hid (Chg (fun b => b = w.heap.size + 2 ∨ b = w.heap.size + 3) _ W2) := Lib.hid ((hgW1.mono (fun x e => .inl e)).trans_same (hgW2.mono (fun x e => .inr e)))
  have HRP := Lib.hid (blk_keep hbW1 hgW2 (fun e => by omega))
  refine hp 14 8 (.bool false) rfl HGR.out ?_
  refine hp 15 9 (.int .i64 0) rfl HGR.out ?_
  refine wpAnyH_done (by kernel_rfl) ?_ _
  go_wp2_with fail
  obtain ⟨k1, k2, k3⟩ := HXd.out.handed (C := w.heap.size) HGR.out hB4
  refine bodyPost_ret (res_cctt Tryz.results231 _ _ (w.heap.size + 2) (w.heap.size + 3) 69 313 (partC ({ p with st := 4 }) m9) #[.int .i64 (wl).frames, .int .i64 (wl).tick, .int .i64 (wl).ver, vq9, vi9] (0, 0) (0, 0) _ _ _ _ rfl rfl rfl rfl HRP.out hbW2 Tryz.underlying69 rfl (by rw [partC_size HXd.out.r8]; exact info_part) Tryz.underlying313 rfl (by kernel_rfl)) rfl ?_
  rw [HE.out]
  exact ⟨m9, vq9, vi9, rfl, HXd.out.bd, k1, k2, k3, HGz.out.then_new HGR.out (fun x e => by omega)⟩
 have d0 : decide (n < 0) = false := by simpa using h0
 by_cases h7 : 7 ≤ n
 ·have d7 : decide (n ≥ 7) = true := by simpa using h7
  have HE : Hid (doV n p wl = ({ p with st := 4 }, wl, false)) := Lib.hid (by
    unfold doV
    rw [if_neg (by omega), if_neg (by omega), if_neg (by omega), if_neg (by omega), if_neg (by omega), if_neg (by omega), if_neg (by omega)])
  have cst := HX.out.cst
  have z12 := HX.out.free 12
  have HX7 := Lib.hid (HX.out.setSt 4 (by omega))
  have HG7 := Lib.hid (HGw.out.then_new (chg_own (i := 12) (u := .int .u8 4) hgB : Chg (From B) W6 _) (fun x e => by have : B ≤ x := e; omega))
  have hr7 := (chg_own (i := 12) (u := .int .u8 4) hgB : Chg (From B) W6 _)
  have HR2z := Lib.hid (blk_keep HR2z.out hr7 (fun e => by have : B ≤ _ := e; omega))
  have HR3z := Lib.hid (blk_keep HR3z.out hr7 (fun e => by have : B ≤ _ := e; omega))
  clear hr7
  go_wp2_with fail
  generalize W6.setCell ⟨g, 12, none⟩ (.int .u8 4) = Z at HX7 HG7 HR2z HR3z ⊢
  clear cst z12
  obtain ⟨m9, vq9, vi9, hx9⟩ : ∃ m vq vi, CalX B Z g ({ p with st := 4 }) (wl) false m vq vi := ⟨_, _, _, HX7.out⟩
  have HXd := Lib.hid (hx9.non ((Chg.refl Non Z).drew))
  have ho9 : m9.oneCell' = true := by obtain ⟨A, c, e, _⟩ := hx9.mem; rw [e]; rfl
  have hoq9 : vq9.oneCell' = true := by obtain ⟨A, c, e, _⟩ := hx9.qs.rd; rw [e]; rfl
  have hoi9 : vi9.oneCell' = true := by obtain ⟨A, c, e, _⟩ := hx9.inp; rw [e]; rfl
  have c19 : World.cell? (Z).drew ⟨g, 19, none⟩ = some (.bool false) := HXd.out.chi 5 rfl
  have hng : ¬ ((⟨g, 19, none⟩ : Addr).block = w.heap.size + 2 ∨ (⟨g, 19, none⟩ : Addr).block = w.heap.size + 3) := fun e => by simp only at e; omega
  have HGz := Lib.hid ((HG7.out).drew)
  have HR2 : Hid ((Z).drew.heap[w.heap.size + 2]? = some (.cells #[.int .i64 0, .int .i64 0, .bool false, .int .u32 0, .int .u32 0, .int .u32 0, .int .u32 0, .int .u32 0, .int .u32 0, .int .u32 0, .int .u32 0, .int .u32 0, .int .u8 0, .slice none 0 0] 69 (0, 0))) := HR2z
  have HR3 : Hid ((Z).drew.heap[w.heap.size + 3]? = some (.cells #[.int .i64 0, .int .i64 0, .int .i64 0, .slice none 0 0, .slice none 0 0] 313 (0, 0))) := HR3z
  refine wp_region_held_drew (S := Chg (fun b => b = w.heap.size + 2 ∨ b = w.heap.size + 3) (Z).drew) (by kernel_rfl) (Chg.refl _ _) (fun hHeld => ?_)
  clear hHeld hx9
  refine hp 0 56 (.pointer (some ⟨g, 0, none⟩)) rfl ((Chg.refl _ _)) ?_
  refine hp 1 57 (.pointer (some ⟨g, 0, none⟩)) rfl ((Chg.refl _ _)) ?_
  refine hp 2 58 (.pointer (some ⟨g, 0, none⟩)) rfl ((Chg.refl _ _)) ?_
  refine h_load 3 (some 59) 69 (.tmp 58) g 0 _ _ rfl (by kernel_rfl) (by kernel_rfl) (by kernel_rfl) (by kernel_rfl) (by kernel_rfl) (fun _ _ _ h => h) (by kernel_rfl) (by kernel_rfl) (fun W hW => range_keepS HXd.out.rangeP hW (by omega)) Tryz.underlying69 rfl (by rw [partC_size HXd.out.r8]; exact info_part) ((Chg.refl _ _)) ?_
  simp only [Act.put, sA, sB, sC]
  refine hp 4 60 (.pointer (some ⟨g, 0, none⟩)) rfl ((Chg.refl _ _)) ?_
  refine hp 5 61 (.pointer (some ⟨g, 0, none⟩)) rfl ((Chg.refl _ _)) ?_
  refine hp 6 62 (.pointer (some ⟨g, 14, none⟩)) rfl ((Chg.refl _ _)) ?_
  refine h_load 7 (some 63) 313 (.tmp 62) g 14 #[.int .i64 (wl).frames, .int .i64 (wl).tick, .int .i64 (wl).ver, vq9, vi9] _ rfl (by kernel_rfl) (by kernel_rfl) (by kernel_rfl) (by kernel_rfl) (by kernel_rfl) (fun _ _ _ h => h) (by kernel_rfl) (by kernel_rfl) (fun W hW => range_keepS HXd.out.rangeW hW (by omega)) Tryz.underlying313 rfl (by kernel_rfl) ((Chg.refl _ _)) ?_
  simp only [Act.put, sA, sB, sC]
  refine hp 8 64 (.pointer (some ⟨g, 0, none⟩)) rfl ((Chg.refl _ _)) ?_
  refine hp 9 65 (.pointer (some ⟨g, 0, none⟩)) rfl ((Chg.refl _ _)) ?_
  refine hp 10 66 (.pointer (some ⟨g, 19, none⟩)) rfl ((Chg.refl _ _)) ?_
  refine hp 11 67 (.bool false) rfl ((Chg.refl _ _)) ?_ (he := (fun W hW => by have hc := hW.cell_some c19 hng; go_simp))
  refine h_store 12 69 (.tmp 6) (.tmp 59) (w.heap.size + 2) (partC ({ p with st := 4 }) m9) (by kernel_rfl) rfl (by kernel_rfl) rfl rfl rfl rfl 69 ⟨_, HR2.out, by rw [partC_size HXd.out.r8]; rfl⟩ (by rw [partC_size HXd.out.r8]; exact info_part) (partC_one _ _ ho9) (fun W hg hb => hg.mono (fun x e => .inl e)) ?_
  intro W1 hgW1 hbW1
  have HR3' := Lib.hid (blk_keep HR3.out hgW1 (fun e => by omega))
  refine h_store 13 313 (.tmp 7) (.tmp 63) (w.heap.size + 3) #[.int .i64 (wl).frames, .int .i64 (wl).tick, .int .i64 (wl).ver, vq9, vi9] (by kernel_rfl) rfl (by kernel_rfl) rfl rfl rfl rfl 313 ⟨_, HR3'.out, rfl⟩ (by kernel_rfl) (by simp [Value.oneCell']; exact ⟨hoq9, hoi9⟩) (fun W hg hb => (hgW1.mono (fun x e => .inl e)).trans_same (hg.mono (fun x e => .inr e))) ?_
  intro W2 hgW2 hbW2
  have HGR : Hid (Chg (fun b => b = w.heap.size + 2 ∨ b = w.heap.size + 3) _ W2) := Lib.hid ((hgW1.mono (fun x e => .inl e)).trans_same (hgW2.mono (fun x e => .inr e)))
  have HRP := Lib.hid (blk_keep hbW1 hgW2 (fun e => by omega))
  refine hp 14 8 (.bool false) rfl HGR.out ?_
  refine hp 15 9 (.int .i64 0) rfl HGR.out ?_
  refine wpAnyH_done (by kernel_rfl) ?_ _
  go_wp2_with fail
  obtain ⟨k1, k2, k3⟩ := HXd.out.handed (C := w.heap.size) HGR.out hB4
  refine bodyPost_ret (res_cctt Tryz.results231 _ _ (w.heap.size + 2) (w.heap.size + 3) 69 313 (partC ({ p with st := 4 }) m9) #[.int .i64 (wl).frames, .int .i64 (wl).tick, .int .i64 (wl).ver, vq9, vi9] (0, 0) (0, 0) _ _ _ _ rfl rfl rfl rfl HRP.out hbW2 Tryz.underlying69 rfl (by rw [partC_size HXd.out.r8]; exact info_part) Tryz.underlying313 rfl (by kernel_rfl)) rfl ?_
  rw [HE.out]
  exact ⟨m9, vq9, vi9, rfl, HXd.out.bd, k1, k2, k3, HGz.out.then_new HGR.out (fun x e => by omega)⟩
 have hk : n = 0 ∨ n = 1 ∨ n = 2 ∨ n = 3 ∨ n = 4 ∨ n = 5 ∨ n = 6 := by omega
 clear h0 h7 d0
 rcases hk with rfl | rfl | rfl | rfl | rfl | rfl | rfl
 ·have fy : W6.cell? ⟨y, 1, none⟩ = some (.func (.func 258) #[.pointer (some ⟨g, 0, none⟩)] #[]) := blk_cell HY.out 1 rfl
  go_wp2_with fail
  refine (cYield_ok B W6 g p wl false _ vq2 vi2 HX.out).mono ?_
  rintro e u7 ⟨rfl, hx, hg7⟩
  obtain ⟨p9, w9, HE, hx9⟩ : ∃ p9 w9, doV 0 p wl = (p9, w9, true) ∧ ∃ m vq vi, CalX B u7 g p9 w9 true m vq vi := ⟨_, _, by simp [doV], hx⟩
  replace HE := Lib.hid HE
  have HX7 := Lib.hid hx9
  have HG7 := Lib.hid (HGw.out.then_new hg7 (fun x e => by have : B ≤ x := e; omega))
  have HR2z := Lib.hid (blk_keep HR2z.out hg7 (fun e => by have : B ≤ _ := e; omega))
  have HR3z := Lib.hid (blk_keep HR3z.out hg7 (fun e => by have : B ≤ _ := e; omega))
  clear hx hx9 hg7 fy
  go_wp2_with fail
  obtain ⟨m9, vq9, vi9, hx9⟩ : ∃ m vq vi, CalX B u7 g (p9) (w9) true m vq vi := HX7.out
  have HXd := Lib.hid (hx9.non ((Chg.refl Non u7).drew))
  have ho9 : m9.oneCell' = true := by obtain ⟨A, c, e, _⟩ := hx9.mem; rw [e]; rfl
  have hoq9 : vq9.oneCell' = true := by obtain ⟨A, c, e, _⟩ := hx9.qs.rd; rw [e]; rfl
  have hoi9 : vi9.oneCell' = true := by obtain ⟨A, c, e, _⟩ := hx9.inp; rw [e]; rfl
  have c19 : World.cell? (u7).drew ⟨g, 19, none⟩ = some (.bool true) := HXd.out.chi 5 rfl
  have hng : ¬ ((⟨g, 19, none⟩ : Addr).block = w.heap.size + 2 ∨ (⟨g, 19, none⟩ : Addr).block = w.heap.size + 3) := fun e => by simp only at e; omega
  have HGz := Lib.hid ((HG7.out).drew)
  have HR2 : Hid ((u7).drew.heap[w.heap.size + 2]? = some (.cells #[.int .i64 0, .int .i64 0, .bool false, .int .u32 0, .int .u32 0, .int .u32 0, .int .u32 0, .int .u32 0, .int .u32 0, .int .u32 0, .int .u32 0, .int .u32 0, .int .u8 0, .slice none 0 0] 69 (0, 0))) := HR2z
  have HR3 : Hid ((u7).drew.heap[w.heap.size + 3]? = some (.cells #[.int .i64 0, .int .i64 0, .int .i64 0, .slice none 0 0, .slice none 0 0] 313 (0, 0))) := HR3z
  refine wp_region_held_drew (S := Chg (fun b => b = w.heap.size + 2 ∨ b = w.heap.size + 3) (u7).drew) (by kernel_rfl) (Chg.refl _ _) (fun hHeld => ?_)
  clear hHeld hx9
  refine hp 0 56 (.pointer (some ⟨g, 0, none⟩)) rfl ((Chg.refl _ _)) ?_
  refine hp 1 57 (.pointer (some ⟨g, 0, none⟩)) rfl ((Chg.refl _ _)) ?_
  refine hp 2 58 (.pointer (some ⟨g, 0, none⟩)) rfl ((Chg.refl _ _)) ?_
  refine h_load 3 (some 59) 69 (.tmp 58) g 0 _ _ rfl (by kernel_rfl) (by kernel_rfl) (by kernel_rfl) (by kernel_rfl) (by kernel_rfl) (fun _ _ _ h => h) (by kernel_rfl) (by kernel_rfl) (fun W hW => range_keepS HXd.out.rangeP hW (by omega)) Tryz.underlying69 rfl (by rw [partC_size HXd.out.r8]; exact info_part) ((Chg.refl _ _)) ?_
  simp only [Act.put, sA, sB, sC]
  refine hp 4 60 (.pointer (some ⟨g, 0, none⟩)) rfl ((Chg.refl _ _)) ?_
  refine hp 5 61 (.pointer (some ⟨g, 0, none⟩)) rfl ((Chg.refl _ _)) ?_
  refine hp 6 62 (.pointer (some ⟨g, 14, none⟩)) rfl ((Chg.refl _ _)) ?_
  refine h_load 7 (some 63) 313 (.tmp 62) g 14 #[.int .i64 (w9).frames, .int .i64 (w9).tick, .int .i64 (w9).ver, vq9, vi9] _ rfl (by kernel_rfl) (by kernel_rfl) (by kernel_rfl) (by kernel_rfl) (by kernel_rfl) (fun _ _ _ h => h) (by kernel_rfl) (by kernel_rfl) (fun W hW => range_keepS HXd.out.rangeW hW (by omega)) Tryz.underlying313 rfl (by kernel_rfl) ((Chg.refl _ _)) ?_
  simp only [Act.put, sA, sB, sC]
  refine hp 8 64 (.pointer (some ⟨g, 0, none⟩)) rfl ((Chg.refl _ _)) ?_
  refine hp 9 65 (.pointer (some ⟨g, 0, none⟩)) rfl ((Chg.refl _ _)) ?_
  refine hp 10 66 (.pointer (some ⟨g, 19, none⟩)) rfl ((Chg.refl _ _)) ?_
  refine hp 11 67 (.bool true) rfl ((Chg.refl _ _)) ?_ (he := (fun W hW => by have hc := hW.cell_some c19 hng; go_simp))
  refine h_store 12 69 (.tmp 6) (.tmp 59) (w.heap.size + 2) (partC (p9) m9) (by kernel_rfl) rfl (by kernel_rfl) rfl rfl rfl rfl 69 ⟨_, HR2.out, by rw [partC_size HXd.out.r8]; rfl⟩ (by rw [partC_size HXd.out.r8]; exact info_part) (partC_one _ _ ho9) (fun W hg hb => hg.mono (fun x e => .inl e)) ?_
  intro W1 hgW1 hbW1
  have HR3' := Lib.hid (blk_keep HR3.out hgW1 (fun e => by omega))
  refine h_store 13 313 (.tmp 7) (.tmp 63) (w.heap.size + 3) #[.int .i64 (w9).frames, .int .i64 (w9).tick, .int .i64 (w9).ver, vq9, vi9] (by kernel_rfl) rfl (by kernel_rfl) rfl rfl rfl rfl 313 ⟨_, HR3'.out, rfl⟩ (by kernel_rfl) (by simp [Value.oneCell']; exact ⟨hoq9, hoi9⟩) (fun W hg hb => (hgW1.mono (fun x e => .inl e)).trans_same (hg.mono (fun x e => .inr e))) ?_
  intro W2 hgW2 hbW2
  have HGR : Hid (Chg (fun b => b = w.heap.size + 2 ∨ b = w.heap.size + 3) _ W2) := Lib.hid ((hgW1.mono (fun x e => .inl e)).trans_same (hgW2.mono (fun x e => .inr e)))
  have HRP := Lib.hid (blk_keep hbW1 hgW2 (fun e => by omega))
  refine hp 14 8 (.bool true) rfl HGR.out ?_
  refine hp 15 9 (.int .i64 0) rfl HGR.out ?_
  refine wpAnyH_done (by kernel_rfl) ?_ _
  go_wp2_with fail
  obtain ⟨k1, k2, k3⟩ := HXd.out.handed (C := w.heap.size) HGR.out hB4
  refine bodyPost_ret (res_cctt Tryz.results231 _ _ (w.heap.size + 2) (w.heap.size + 3) 69 313 (partC (p9) m9) #[.int .i64 (w9).frames, .int .i64 (w9).tick, .int .i64 (w9).ver, vq9, vi9] (0, 0) (0, 0) _ _ _ _ rfl rfl rfl rfl HRP.out hbW2 Tryz.underlying69 rfl (by rw [partC_size HXd.out.r8]; exact info_part) Tryz.underlying313 rfl (by kernel_rfl)) rfl ?_
  rw [HE.out]
  exact ⟨m9, vq9, vi9, rfl, HXd.out.bd, k1, k2, k3, HGz.out.then_new HGR.out (fun x e => by omega)⟩
 ·have fy : W6.cell? ⟨y, 3, none⟩ = some (.func (.func 259) #[.pointer (some ⟨g, 0, none⟩)] #[]) := blk_cell HY.out 3 rfl
  cases hs : (sendV p wl).1 with
  | true =>
   have hC := cSend_ok B W6 g p wl false _ vq2 vi2 hm0 hml HQM.out HX.out
   rw [hs] at hC
   replace hC := Lib.hid hC
   go_wp2_with fail
   refine (hC.out).mono ?_
   rintro e u7 ⟨rfl, hx, hg7⟩
   obtain ⟨p9, w9, HE, hx9⟩ : ∃ p9 w9, doV 1 p wl = (p9, w9, false) ∧ ∃ m vq vi, CalX B u7 g p9 w9 false m vq vi := ⟨_, _, by simp [doV, hs], hx⟩
   replace HE := Lib.hid HE
   have HX7 := Lib.hid hx9
   have HG7 := Lib.hid (HGw.out.then_new hg7 (fun x e => by have : B ≤ x := e; omega))
   have HR2z := Lib.hid (blk_keep HR2z.out hg7 (fun e => by have : B ≤ _ := e; omega))
   have HR3z := Lib.hid (blk_keep HR3z.out hg7 (fun e => by have : B ≤ _ := e; omega))
   clear hx hx9 hg7 fy hC
   go_wp2_with fail
   obtain ⟨m9, vq9, vi9, hx9⟩ : ∃ m vq vi, CalX B u7 g (p9) (w9) false m vq vi := HX7.out
   have HXd := Lib.hid (hx9.non ((Chg.refl Non u7).drew))
   have ho9 : m9.oneCell' = true := by obtain ⟨A, c, e, _⟩ := hx9.mem; rw [e]; rfl
   have hoq9 : vq9.oneCell' = true := by obtain ⟨A, c, e, _⟩ := hx9.qs.rd; rw [e]; rfl
   have hoi9 : vi9.oneCell' = true := by obtain ⟨A, c, e, _⟩ := hx9.inp; rw [e]; rfl
   have c19 : World.cell? (u7).drew ⟨g, 19, none⟩ = some (.bool false) := HXd.out.chi 5 rfl
   have hng : ¬ ((⟨g, 19, none⟩ : Addr).block = w.heap.size + 2 ∨ (⟨g, 19, none⟩ : Addr).block = w.heap.size + 3) := fun e => by simp only at e; omega
   have HGz := Lib.hid ((HG7.out).drew)
   have HR2 : Hid ((u7).drew.heap[w.heap.size + 2]? = some (.cells #[.int .i64 0, .int .i64 0, .bool false, .int .u32 0, .int .u32 0, .int .u32 0, .int .u32 0, .int .u32 0, .int .u32 0, .int .u32 0, .int .u32 0, .int .u32 0, .int .u8 0, .slice none 0 0] 69 (0, 0))) := HR2z
   have HR3 : Hid ((u7).drew.heap[w.heap.size + 3]? = some (.cells #[.int .i64 0, .int .i64 0, .int .i64 0, .slice none 0 0, .slice none 0 0] 313 (0, 0))) := HR3z
   refine wp_region_held_drew (S := Chg (fun b => b = w.heap.size + 2 ∨ b = w.heap.size + 3) (u7).drew) (by kernel_rfl) (Chg.refl _ _) (fun hHeld => ?_)
   clear hHeld hx9
   refine hp 0 56 (.pointer (some ⟨g, 0, none⟩)) rfl ((Chg.refl _ _)) ?_
   refine hp 1 57 (.pointer (some ⟨g, 0, none⟩)) rfl ((Chg.refl _ _)) ?_
   refine hp 2 58 (.pointer (some ⟨g, 0, none⟩)) rfl ((Chg.refl _ _)) ?_
   refine h_load 3 (some 59) 69 (.tmp 58) g 0 _ _ rfl (by kernel_rfl) (by kernel_rfl) (by kernel_rfl) (by kernel_rfl) (by kernel_rfl) (fun _ _ _ h => h) (by kernel_rfl) (by kernel_rfl) (fun W hW => range_keepS HXd.out.rangeP hW (by omega)) Tryz.underlying69 rfl (by rw [partC_size HXd.out.r8]; exact info_part) ((Chg.refl _ _)) ?_
   simp only [Act.put, sA, sB, sC]
   refine hp 4 60 (.pointer (some ⟨g, 0, none⟩)) rfl ((Chg.refl _ _)) ?_
   refine hp 5 61 (.pointer (some ⟨g, 0, none⟩)) rfl ((Chg.refl _ _)) ?_
   refine hp 6 62 (.pointer (some ⟨g, 14, none⟩)) rfl ((Chg.refl _ _)) ?_
   refine h_load 7 (some 63) 313 (.tmp 62) g 14 #[.int .i64 (w9).frames, .int .i64 (w9).tick, .int .i64 (w9).ver, vq9, vi9] _ rfl (by kernel_rfl) (by kernel_rfl) (by kernel_rfl) (by kernel_rfl) (by kernel_rfl) (fun _ _ _ h => h) (by kernel_rfl) (by kernel_rfl) (fun W hW => range_keepS HXd.out.rangeW hW (by omega)) Tryz.underlying313 rfl (by kernel_rfl) ((Chg.refl _ _)) ?_
   simp only [Act.put, sA, sB, sC]
   refine hp 8 64 (.pointer (some ⟨g, 0, none⟩)) rfl ((Chg.refl _ _)) ?_
   refine hp 9 65 (.pointer (some ⟨g, 0, none⟩)) rfl ((Chg.refl _ _)) ?_
   refine hp 10 66 (.pointer (some ⟨g, 19, none⟩)) rfl ((Chg.refl _ _)) ?_
   refine hp 11 67 (.bool false) rfl ((Chg.refl _ _)) ?_ (he := (fun W hW => by have hc := hW.cell_some c19 hng; go_simp))
   refine h_store 12 69 (.tmp 6) (.tmp 59) (w.heap.size + 2) (partC (p9) m9) (by kernel_rfl) rfl (by kernel_rfl) rfl rfl rfl rfl 69 ⟨_, HR2.out, by rw [partC_size HXd.out.r8]; rfl⟩ (by rw [partC_size HXd.out.r8]; exact info_part) (partC_one _ _ ho9) (fun W hg hb => hg.mono (fun x e => .inl e)) ?_
   intro W1 hgW1 hbW1
   have HR3' := Lib.hid (blk_keep HR3.out hgW1 (fun e => by omega))
   refine h_store 13 313 (.tmp 7) (.tmp 63) (w.heap.size + 3) #[.int .i64 (w9).frames, .int .i64 (w9).tick, .int .i64 (w9).ver, vq9, vi9] (by kernel_rfl) rfl (by kernel_rfl) rfl rfl rfl rfl 313 ⟨_, HR3'.out, rfl⟩ (by kernel_rfl) (by simp [Value.oneCell']; exact ⟨hoq9, hoi9⟩) (fun W hg hb => (hgW1.mono (fun x e => .inl e)).trans_same (hg.mono (fun x e => .inr e))) ?_
   intro W2 hgW2 hbW2
   have HGR : Hid (Chg (fun b => b = w.heap.size + 2 ∨ b = w.heap.size + 3) _ W2) := Lib.hid ((hgW1.mono (fun x e => .inl e)).trans_same (hgW2.mono (fun x e => .inr e)))
   have HRP := Lib.hid (blk_keep hbW1 hgW2 (fun e => by omega))
   refine hp 14 8 (.bool false) rfl HGR.out ?_
   refine hp 15 9 (.int .i64 0) rfl HGR.out ?_
   refine wpAnyH_done (by kernel_rfl) ?_ _
   go_wp2_with fail
   obtain ⟨k1, k2, k3⟩ := HXd.out.handed (C := w.heap.size) HGR.out hB4
   refine bodyPost_ret (res_cctt Tryz.results231 _ _ (w.heap.size + 2) (w.heap.size + 3) 69 313 (partC (p9) m9) #[.int .i64 (w9).frames, .int .i64 (w9).tick, .int .i64 (w9).ver, vq9, vi9] (0, 0) (0, 0) _ _ _ _ rfl rfl rfl rfl HRP.out hbW2 Tryz.underlying69 rfl (by rw [partC_size HXd.out.r8]; exact info_part) Tryz.underlying313 rfl (by kernel_rfl)) rfl ?_
   rw [HE.out]
   exact ⟨m9, vq9, vi9, rfl, HXd.out.bd, k1, k2, k3, HGz.out.then_new HGR.out (fun x e => by omega)⟩
  | false =>
   have hsm := sendV_same hs
   have HE : Hid (doV 1 p wl = ({ p with st := 4 }, wl, false)) := Lib.hid (by simp [doV, hs])
   have hC := cSend_ok B W6 g p wl false _ vq2 vi2 hm0 hml HQM.out HX.out
   rw [hsm] at hC
   replace hC := Lib.hid hC
   clear hsm hs
   go_wp2_with fail
   refine hC.out.mono ?_
   rintro e u7 ⟨rfl, ⟨m7, vq7, vi7, hx⟩, hg7⟩
   have hx : CalX B u7 g p wl false m7 vq7 vi7 := hx
   have cst := hx.cst
   have z12 := hx.free 12
   have HX7 := Lib.hid (hx.setSt 4 (by omega))
   have hr7 := hg7.trans_same (chg_own (i := 12) (u := .int .u8 4) hgB : Chg (From B) u7 _)
   have HG7 := Lib.hid (HGw.out.then_new hr7 (fun x e => by have : B ≤ x := e; omega))
   have HR2z := Lib.hid (blk_keep HR2z.out hr7 (fun e => by have : B ≤ _ := e; omega))
   have HR3z := Lib.hid (blk_keep HR3z.out hr7 (fun e => by have : B ≤ _ := e; omega))
   clear hr7 hx hg7 fy hC
   go_wp2_with fail
   generalize u7.setCell ⟨g, 12, none⟩ (.int .u8 4) = Z at HX7 HG7 HR2z HR3z ⊢
   clear cst z12
   obtain ⟨m9, vq9, vi9, hx9⟩ : ∃ m vq vi, CalX B Z g ({ p with st := 4 }) (wl) false m vq vi := ⟨_, _, _, HX7.out⟩
   have HXd := Lib.hid (hx9.non ((Chg.refl Non Z).drew))
   have ho9 : m9.oneCell' = true := by obtain ⟨A, c, e, _⟩ := hx9.mem; rw [e]; rfl
   have hoq9 : vq9.oneCell' = true := by obtain ⟨A, c, e, _⟩ := hx9.qs.rd; rw [e]; rfl
   have hoi9 : vi9.oneCell' = true := by obtain ⟨A, c, e, _⟩ := hx9.inp; rw [e]; rfl
   have c19 : World.cell? (Z).drew ⟨g, 19, none⟩ = some (.bool false) := HXd.out.chi 5 rfl
   have hng : ¬ ((⟨g, 19, none⟩ : Addr).block = w.heap.size + 2 ∨ (⟨g, 19, none⟩ : Addr).block = w.heap.size + 3) := fun e => by simp only at e; omega
   have HGz := Lib.hid ((HG7.out).drew)
   have HR2 : Hid ((Z).drew.heap[w.heap.size + 2]? = some (.cells #[.int .i64 0, .int .i64 0, .bool false, .int .u32 0, .int .u32 0, .int .u32 0, .int .u32 0, .int .u32 0, .int .u32 0, .int .u32 0, .int .u32 0, .int .u32 0, .int .u8 0, .slice none 0 0] 69 (0, 0))) := HR2z
   have HR3 : Hid ((Z).drew.heap[w.heap.size + 3]? = some (.cells #[.int .i64 0, .int .i64 0, .int .i64 0, .slice none 0 0, .slice none 0 0] 313 (0, 0))) := HR3z
   refine wp_region_held_drew (S := Chg (fun b => b = w.heap.size + 2 ∨ b = w.heap.size + 3) (Z).drew) (by kernel_rfl) (Chg.refl _ _) (fun hHeld => ?_)
   clear hHeld hx9
   refine hp 0 56 (.pointer (some ⟨g, 0, none⟩)) rfl ((Chg.refl _ _)) ?_
   refine hp 1 57 (.pointer (some ⟨g, 0, none⟩)) rfl ((Chg.refl _ _)) ?_
   refine hp 2 58 (.pointer (some ⟨g, 0, none⟩)) rfl ((Chg.refl _ _)) ?_
   refine h_load 3 (some 59) 69 (.tmp 58) g 0 _ _ rfl (by kernel_rfl) (by kernel_rfl) (by kernel_rfl) (by kernel_rfl) (by kernel_rfl) (fun _ _ _ h => h) (by kernel_rfl) (by kernel_rfl) (fun W hW => range_keepS HXd.out.rangeP hW (by omega)) Tryz.underlying69 rfl (by rw [partC_size HXd.out.r8]; exact info_part) ((Chg.refl _ _)) ?_
   simp only [Act.put, sA, sB, sC]
   refine hp 4 60 (.pointer (some ⟨g, 0, none⟩)) rfl ((Chg.refl _ _)) ?_
   refine hp 5 61 (.pointer (some ⟨g, 0, none⟩)) rfl ((Chg.refl _ _)) ?_
   refine hp 6 62 (.pointer (some ⟨g, 14, none⟩)) rfl ((Chg.refl _ _)) ?_
   refine h_load 7 (some 63) 313 (.tmp 62) g 14 #[.int .i64 (wl).frames, .int .i64 (wl).tick, .int .i64 (wl).ver, vq9, vi9] _ rfl (by kernel_rfl) (by kernel_rfl) (by kernel_rfl) (by kernel_rfl) (by kernel_rfl) (fun _ _ _ h => h) (by kernel_rfl) (by kernel_rfl) (fun W hW => range_keepS HXd.out.rangeW hW (by omega)) Tryz.underlying313 rfl (by kernel_rfl) ((Chg.refl _ _)) ?_
   simp only [Act.put, sA, sB, sC]
   refine hp 8 64 (.pointer (some ⟨g, 0, none⟩)) rfl ((Chg.refl _ _)) ?_
   refine hp 9 65 (.pointer (some ⟨g, 0, none⟩)) rfl ((Chg.refl _ _)) ?_
   refine hp 10 66 (.pointer (some ⟨g, 19, none⟩)) rfl ((Chg.refl _ _)) ?_
   refine hp 11 67 (.bool false) rfl ((Chg.refl _ _)) ?_ (he := (fun W hW => by have hc := hW.cell_some c19 hng; go_simp))
   refine h_store 12 69 (.tmp 6) (.tmp 59) (w.heap.size + 2) (partC ({ p with st := 4 }) m9) (by kernel_rfl) rfl (by kernel_rfl) rfl rfl rfl rfl 69 ⟨_, HR2.out, by rw [partC_size HXd.out.r8]; rfl⟩ (by rw [partC_size HXd.out.r8]; exact info_part) (partC_one _ _ ho9) (fun W hg hb => hg.mono (fun x e => .inl e)) ?_
   intro W1 hgW1 hbW1
   have HR3' := Lib.hid (blk_keep HR3.out hgW1 (fun e => by omega))
   refine h_store 13 313 (.tmp 7) (.tmp 63) (w.heap.size + 3) #[.int .i64 (wl).frames, .int .i64 (wl).tick, .int .i64 (wl).ver, vq9, vi9] (by kernel_rfl) rfl (by kernel_rfl) rfl rfl rfl rfl 313 ⟨_, HR3'.out, rfl⟩ (by kernel_rfl) (by simp [Value.oneCell']; exact ⟨hoq9, hoi9⟩) (fun W hg hb => (hgW1.mono (fun x e => .inl e)).trans_same (hg.mono (fun x e => .inr e))) ?_
   intro W2 hgW2 hbW2
   have HGR : Hid (Chg (fun b => b = w.heap.size + 2 ∨ b = w.heap.size + 3) _ W2) := Lib.hid ((hgW1.mono (fun x e => .inl e)).trans_same (hgW2.mono (fun x e => .inr e)))
   have HRP := Lib.hid (blk_keep hbW1 hgW2 (fun e => by omega))
   refine hp 14 8 (.bool false) rfl HGR.out ?_
   refine hp 15 9 (.int .i64 0) rfl HGR.out ?_
   refine wpAnyH_done (by kernel_rfl) ?_ _
   go_wp2_with fail
   obtain ⟨k1, k2, k3⟩ := HXd.out.handed (C := w.heap.size) HGR.out hB4
   refine bodyPost_ret (res_cctt Tryz.results231 _ _ (w.heap.size + 2) (w.heap.size + 3) 69 313 (partC ({ p with st := 4 }) m9) #[.int .i64 (wl).frames, .int .i64 (wl).tick, .int .i64 (wl).ver, vq9, vi9] (0, 0) (0, 0) _ _ _ _ rfl rfl rfl rfl HRP.out hbW2 Tryz.underlying69 rfl (by rw [partC_size HXd.out.r8]; exact info_part) Tryz.underlying313 rfl (by kernel_rfl)) rfl ?_
   rw [HE.out]
   exact ⟨m9, vq9, vi9, rfl, HXd.out.bd, k1, k2, k3, HGz.out.then_new HGR.out (fun x e => by omega)⟩
 ·have fy : W6.cell? ⟨y, 5, none⟩ = some (.func (.func 260) #[.pointer (some ⟨g, 0, none⟩)] #[]) := blk_cell HY.out 5 rfl
  cases hs : (recvV p wl).1 with
  | true =>
   have hC := cRecv_ok B W6 g p wl false _ vq2 vi2 hm0 hml HQM.out HX.out
   rw [hs] at hC
   replace hC := Lib.hid hC
   go_wp2_with fail
   refine (hC.out).mono ?_
   rintro e u7 ⟨rfl, hx, hg7⟩
   obtain ⟨p9, w9, HE, hx9⟩ : ∃ p9 w9, doV 2 p wl = (p9, w9, false) ∧ ∃ m vq vi, CalX B u7 g p9 w9 false m vq vi := ⟨_, _, by simp [doV, hs], hx⟩
   replace HE := Lib.hid HE
   have HX7 := Lib.hid hx9
   have HG7 := Lib.hid (HGw.out.then_new hg7 (fun x e => by have : B ≤ x := e; omega))
   have HR2z := Lib.hid (blk_keep HR2z.out hg7 (fun e => by have : B ≤ _ := e; omega))
   have HR3z := Lib.hid (blk_keep HR3z.out hg7 (fun e => by have : B ≤ _ := e; omega))
   clear hx hx9 hg7 fy hC
   go_wp2_with fail
   obtain ⟨m9, vq9, vi9, hx9⟩ : ∃ m vq vi, CalX B u7 g (p9) (w9) false m vq vi := HX7.out
   have HXd := Lib.hid (hx9.non ((Chg.refl Non u7).drew))
   have ho9 : m9.oneCell' = true := by obtain ⟨A, c, e, _⟩ := hx9.mem; rw [e]; rfl
   have hoq9 : vq9.oneCell' = true := by obtain ⟨A, c, e, _⟩ := hx9.qs.rd; rw [e]; rfl
   have hoi9 : vi9.oneCell' = true := by obtain ⟨A, c, e, _⟩ := hx9.inp; rw [e]; rfl
   have c19 : World.cell? (u7).drew ⟨g, 19, none⟩ = some (.bool false) := HXd.out.chi 5 rfl
   have hng : ¬ ((⟨g, 19, none⟩ : Addr).block = w.heap.size + 2 ∨ (⟨g, 19, none⟩ : Addr).block = w.heap.size + 3) := fun e => by simp only at e; omega
   have HGz := Lib.hid ((HG7.out).drew)
   have HR2 : Hid ((u7).drew.heap[w.heap.size + 2]? = some (.cells #[.int .i64 0, .int .i64 0, .bool false, .int .u32 0, .int .u32 0, .int .u32 0, .int .u32 0, .int .u32 0, .int .u32 0, .int .u32 0, .int .u32 0, .int .u32 0, .int .u8 0, .slice none 0 0] 69 (0, 0))) := HR2z
   have HR3 : Hid ((u7).drew.heap[w.heap.size + 3]? = some (.cells #[.int .i64 0, .int .i64 0, .int .i64 0, .slice none 0 0, .slice none 0 0] 313 (0, 0))) := HR3z
   refine wp_region_held_drew (S := Chg (fun b => b = w.heap.size + 2 ∨ b = w.heap.size + 3) (u7).drew) (by kernel_rfl) (Chg.refl _ _) (fun hHeld => ?_)
   clear hHeld hx9
   refine hp 0 56 (.pointer (some ⟨g, 0, none⟩)) rfl ((Chg.refl _ _)) ?_
   refine hp 1 57 (.pointer (some ⟨g, 0, none⟩)) rfl ((Chg.refl _ _)) ?_
   refine hp 2 58 (.pointer (some ⟨g, 0, none⟩)) rfl ((Chg.refl _ _)) ?_
   refine h_load 3 (some 59) 69 (.tmp 58) g 0 _ _ rfl (by kernel_rfl) (by kernel_rfl) (by kernel_rfl) (by kernel_rfl) (by kernel_rfl) (fun _ _ _ h => h) (by kernel_rfl) (by kernel_rfl) (fun W hW => range_keepS HXd.out.rangeP hW (by omega)) Tryz.underlying69 rfl (by rw [partC_size HXd.out.r8]; exact info_part) ((Chg.refl _ _)) ?_
   simp only [Act.put, sA, sB, sC]
   refine hp 4 60 (.pointer (some ⟨g, 0, none⟩)) rfl ((Chg.refl _ _)) ?_
   refine hp 5 61 (.pointer (some ⟨g, 0, none⟩)) rfl ((Chg.refl _ _)) ?_
   refine hp 6 62 (.pointer (some ⟨g, 14, none⟩)) rfl ((Chg.refl _ _)) ?_
   refine h_load 7 (some 63) 313 (.tmp 62) g 14 #[.int .i64 (w9).frames, .int .i64 (w9).tick, .int .i64 (w9).ver, vq9, vi9] _ rfl (by kernel_rfl) (by kernel_rfl) (by kernel_rfl) (by kernel_rfl) (by kernel_rfl) (fun _ _ _ h => h) (by kernel_rfl) (by kernel_rfl) (fun W hW => range_keepS HXd.out.rangeW hW (by omega)) Tryz.underlying313 rfl (by kernel_rfl) ((Chg.refl _ _)) ?_
   simp only [Act.put, sA, sB, sC]
   refine hp 8 64 (.pointer (some ⟨g, 0, none⟩)) rfl ((Chg.refl _ _)) ?_
   refine hp 9 65 (.pointer (some ⟨g, 0, none⟩)) rfl ((Chg.refl _ _)) ?_
   refine hp 10 66 (.pointer (some ⟨g, 19, none⟩)) rfl ((Chg.refl _ _)) ?_
   refine hp 11 67 (.bool false) rfl ((Chg.refl _ _)) ?_ (he := (fun W hW => by have hc := hW.cell_some c19 hng; go_simp))
   refine h_store 12 69 (.tmp 6) (.tmp 59) (w.heap.size + 2) (partC (p9) m9) (by kernel_rfl) rfl (by kernel_rfl) rfl rfl rfl rfl 69 ⟨_, HR2.out, by rw [partC_size HXd.out.r8]; rfl⟩ (by rw [partC_size HXd.out.r8]; exact info_part) (partC_one _ _ ho9) (fun W hg hb => hg.mono (fun x e => .inl e)) ?_
   intro W1 hgW1 hbW1
   have HR3' := Lib.hid (blk_keep HR3.out hgW1 (fun e => by omega))
   refine h_store 13 313 (.tmp 7) (.tmp 63) (w.heap.size + 3) #[.int .i64 (w9).frames, .int .i64 (w9).tick, .int .i64 (w9).ver, vq9, vi9] (by kernel_rfl) rfl (by kernel_rfl) rfl rfl rfl rfl 313 ⟨_, HR3'.out, rfl⟩ (by kernel_rfl) (by simp [Value.oneCell']; exact ⟨hoq9, hoi9⟩) (fun W hg hb => (hgW1.mono (fun x e => .inl e)).trans_same (hg.mono (fun x e => .inr e))) ?_
   intro W2 hgW2 hbW2
   have HGR : Hid (Chg (fun b => b = w.heap.size + 2 ∨ b = w.heap.size + 3) _ W2) := Lib.hid ((hgW1.mono (fun x e => .inl e)).trans_same (hgW2.mono (fun x e => .inr e)))
   have HRP := Lib.hid (blk_keep hbW1 hgW2 (fun e => by omega))
   refine hp 14 8 (.bool false) rfl HGR.out ?_
   refine hp 15 9 (.int .i64 0) rfl HGR.out ?_
   refine wpAnyH_done (by kernel_rfl) ?_ _
   go_wp2_with fail
   obtain ⟨k1, k2, k3⟩ := HXd.out.handed (C := w.heap.size) HGR.out hB4
   refine bodyPost_ret (res_cctt Tryz.results231 _ _ (w.heap.size + 2) (w.heap.size + 3) 69 313 (partC (p9) m9) #[.int .i64 (w9).frames, .int .i64 (w9).tick, .int .i64 (w9).ver, vq9, vi9] (0, 0) (0, 0) _ _ _ _ rfl rfl rfl rfl HRP.out hbW2 Tryz.underlying69 rfl (by rw [partC_size HXd.out.r8]; exact info_part) Tryz.underlying313 rfl (by kernel_rfl)) rfl ?_
   rw [HE.out]
   exact ⟨m9, vq9, vi9, rfl, HXd.out.bd, k1, k2, k3, HGz.out.then_new HGR.out (fun x e => by omega)⟩
  | false =>
   have hsm := recvV_same hs
   have HE : Hid (doV 2 p wl = ({ p with st := 4 }, wl, false)) := Lib.hid (by simp [doV, hs])
   have hC := cRecv_ok B W6 g p wl false _ vq2 vi2 hm0 hml HQM.out HX.out
   rw [hsm] at hC
   replace hC := Lib.hid hC
   clear hsm hs
   go_wp2_with fail
   refine hC.out.mono ?_
   rintro e u7 ⟨rfl, ⟨m7, vq7, vi7, hx⟩, hg7⟩
   have hx : CalX B u7 g p wl false m7 vq7 vi7 := hx
   have cst := hx.cst
   have z12 := hx.free 12
   have HX7 := Lib.hid (hx.setSt 4 (by omega))
   have hr7 := hg7.trans_same (chg_own (i := 12) (u := .int .u8 4) hgB : Chg (From B) u7 _)
   have HG7 := Lib.hid (HGw.out.then_new hr7 (fun x e => by have : B ≤ x := e; omega))
   have HR2z := Lib.hid (blk_keep HR2z.out hr7 (fun e => by have : B ≤ _ := e; omega))
   have HR3z := Lib.hid (blk_keep HR3z.out hr7 (fun e => by have : B ≤ _ := e; omega))
   clear hr7 hx hg7 fy hC
   go_wp2_with fail
   generalize u7.setCell ⟨g, 12, none⟩ (.int .u8 4) = Z at HX7 HG7 HR2z HR3z ⊢
   clear cst z12
   obtain ⟨m9, vq9, vi9, hx9⟩ : ∃ m vq vi, CalX B Z g ({ p with st := 4 }) (wl) false m vq vi := ⟨_, _, _, HX7.out⟩
   have HXd := Lib.hid (hx9.non ((Chg.refl Non Z).drew))
   have ho9 : m9.oneCell' = true := by obtain ⟨A, c, e, _⟩ := hx9.mem; rw [e]; rfl
   have hoq9 : vq9.oneCell' = true := by obtain ⟨A, c, e, _⟩ := hx9.qs.rd; rw [e]; rfl
   have hoi9 : vi9.oneCell' = true := by obtain ⟨A, c, e, _⟩ := hx9.inp; rw [e]; rfl
   have c19 : World.cell? (Z).drew ⟨g, 19, none⟩ = some (.bool false) := HXd.out.chi 5 rfl
   have hng : ¬ ((⟨g, 19, none⟩ : Addr).block = w.heap.size + 2 ∨ (⟨g, 19, none⟩ : Addr).block = w.heap.size + 3) := fun e => by simp only at e; omega
   have HGz := Lib.hid ((HG7.out).drew)
   have HR2 : Hid ((Z).drew.heap[w.heap.size + 2]? = some (.cells #[.int .i64 0, .int .i64 0, .bool false, .int .u32 0, .int .u32 0, .int .u32 0, .int .u32 0, .int .u32 0, .int .u32 0, .int .u32 0, .int .u32 0, .int .u32 0, .int .u8 0, .slice none 0 0] 69 (0, 0))) := HR2z
   have HR3 : Hid ((Z).drew.heap[w.heap.size + 3]? = some (.cells #[.int .i64 0, .int .i64 0, .int .i64 0, .slice none 0 0, .slice none 0 0] 313 (0, 0))) := HR3z
   refine wp_region_held_drew (S := Chg (fun b => b = w.heap.size + 2 ∨ b = w.heap.size + 3) (Z).drew) (by kernel_rfl) (Chg.refl _ _) (fun hHeld => ?_)
   clear hHeld hx9
   refine hp 0 56 (.pointer (some ⟨g, 0, none⟩)) rfl ((Chg.refl _ _)) ?_
   refine hp 1 57 (.pointer (some ⟨g, 0, none⟩)) rfl ((Chg.refl _ _)) ?_
   refine hp 2 58 (.pointer (some ⟨g, 0, none⟩)) rfl ((Chg.refl _ _)) ?_
   refine h_load 3 (some 59) 69 (.tmp 58) g 0 _ _ rfl (by kernel_rfl) (by kernel_rfl) (by kernel_rfl) (by kernel_rfl) (by kernel_rfl) (fun _ _ _ h => h) (by kernel_rfl) (by kernel_rfl) (fun W hW => range_keepS HXd.out.rangeP hW (by omega)) Tryz.underlying69 rfl (by rw [partC_size HXd.out.r8]; exact info_part) ((Chg.refl _ _)) ?_
   simp only [Act.put, sA, sB, sC]
   refine hp 4 60 (.pointer (some ⟨g, 0, none⟩)) rfl ((Chg.refl _ _)) ?_
   refine hp 5 61 (.pointer (some ⟨g, 0, none⟩)) rfl ((Chg.refl _ _)) ?_
   refine hp 6 62 (.pointer (some ⟨g, 14, none⟩)) rfl ((Chg.refl _ _)) ?_
   refine h_load 7 (some 63) 313 (.tmp 62) g 14 #[.int .i64 (wl).frames, .int .i64 (wl).tick, .int .i64 (wl).ver, vq9, vi9] _ rfl (by kernel_rfl) (by kernel_rfl) (by kernel_rfl) (by kernel_rfl) (by kernel_rfl) (fun _ _ _ h => h) (by kernel_rfl) (by kernel_rfl) (fun W hW => range_keepS HXd.out.rangeW hW (by omega)) Tryz.underlying313 rfl (by kernel_rfl) ((Chg.refl _ _)) ?_
   simp only [Act.put, sA, sB, sC]
   refine hp 8 64 (.pointer (some ⟨g, 0, none⟩)) rfl ((Chg.refl _ _)) ?_
   refine hp 9 65 (.pointer (some ⟨g, 0, none⟩)) rfl ((Chg.refl _ _)) ?_
   refine hp 10 66 (.pointer (some ⟨g, 19, none⟩)) rfl ((Chg.refl _ _)) ?_
   refine hp 11 67 (.bool false) rfl ((Chg.refl _ _)) ?_ (he := (fun W hW => by have hc := hW.cell_some c19 hng; go_simp))
   refine h_store 12 69 (.tmp 6) (.tmp 59) (w.heap.size + 2) (partC ({ p with st := 4 }) m9) (by kernel_rfl) rfl (by kernel_rfl) rfl rfl rfl rfl 69 ⟨_, HR2.out, by rw [partC_size HXd.out.r8]; rfl⟩ (by rw [partC_size HXd.out.r8]; exact info_part) (partC_one _ _ ho9) (fun W hg hb => hg.mono (fun x e => .inl e)) ?_
   intro W1 hgW1 hbW1
   have HR3' := Lib.hid (blk_keep HR3.out hgW1 (fun e => by omega))
   refine h_store 13 313 (.tmp 7) (.tmp 63) (w.heap.size + 3) #[.int .i64 (wl).frames, .int .i64 (wl).tick, .int .i64 (wl).ver, vq9, vi9] (by kernel_rfl) rfl (by kernel_rfl) rfl rfl rfl rfl 313 ⟨_, HR3'.out, rfl⟩ (by kernel_rfl) (by simp [Value.oneCell']; exact ⟨hoq9, hoi9⟩) (fun W hg hb => (hgW1.mono (fun x e => .inl e)).trans_same (hg.mono (fun x e => .inr e))) ?_
   intro W2 hgW2 hbW2
   have HGR : Hid (Chg (fun b => b = w.heap.size + 2 ∨ b = w.heap.size + 3) _ W2) := Lib.hid ((hgW1.mono (fun x e => .inl e)).trans_same (hgW2.mono (fun x e => .inr e)))
   have HRP := Lib.hid (blk_keep hbW1 hgW2 (fun e => by omega))
   refine hp 14 8 (.bool false) rfl HGR.out ?_
   refine hp 15 9 (.int .i64 0) rfl HGR.out ?_
   refine wpAnyH_done (by kernel_rfl) ?_ _
   go_wp2_with fail
   obtain ⟨k1, k2, k3⟩ := HXd.out.handed (C := w.heap.size) HGR.out hB4
   refine bodyPost_ret (res_cctt Tryz.results231 _ _ (w.heap.size + 2) (w.heap.size + 3) 69 313 (partC ({ p with st := 4 }) m9) #[.int .i64 (wl).frames, .int .i64 (wl).tick, .int .i64 (wl).ver, vq9, vi9] (0, 0) (0, 0) _ _ _ _ rfl rfl rfl rfl HRP.out hbW2 Tryz.underlying69 rfl (by rw [partC_size HXd.out.r8]; exact info_part) Tryz.underlying313 rfl (by kernel_rfl)) rfl ?_
   rw [HE.out]
   exact ⟨m9, vq9, vi9, rfl, HXd.out.bd, k1, k2, k3, HGz.out.then_new HGR.out (fun x e => by omega)⟩
 ·have fy : W6.cell? ⟨y, 7, none⟩ = some (.func (.func 261) #[.pointer (some ⟨g, 0, none⟩)] #[]) := blk_cell HY.out 7 rfl
  go_wp2_with fail
  refine (cNow_ok B W6 g p wl false _ vq2 vi2 hf ht HX.out).mono ?_
  rintro e u7 ⟨rfl, hx, hg7⟩
  obtain ⟨p9, w9, HE, hx9⟩ : ∃ p9 w9, doV 3 p wl = (p9, w9, false) ∧ ∃ m vq vi, CalX B u7 g p9 w9 false m vq vi := ⟨_, _, by simp [doV], hx⟩
  replace HE := Lib.hid HE
  have HX7 := Lib.hid hx9
  have HG7 := Lib.hid (HGw.out.then_new hg7 (fun x e => by have : B ≤ x := e; omega))
  have HR2z := Lib.hid (blk_keep HR2z.out hg7 (fun e => by have : B ≤ _ := e; omega))
  have HR3z := Lib.hid (blk_keep HR3z.out hg7 (fun e => by have : B ≤ _ := e; omega))
  clear hx hx9 hg7 fy
  go_wp2_with fail
  obtain ⟨m9, vq9, vi9, hx9⟩ : ∃ m vq vi, CalX B u7 g (p9) (w9) false m vq vi := HX7.out
  have HXd := Lib.hid (hx9.non ((Chg.refl Non u7).drew))
  have ho9 : m9.oneCell' = true := by obtain ⟨A, c, e, _⟩ := hx9.mem; rw [e]; rfl
  have hoq9 : vq9.oneCell' = true := by obtain ⟨A, c, e, _⟩ := hx9.qs.rd; rw [e]; rfl
  have hoi9 : vi9.oneCell' = true := by obtain ⟨A, c, e, _⟩ := hx9.inp; rw [e]; rfl
  have c19 : World.cell? (u7).drew ⟨g, 19, none⟩ = some (.bool false) := HXd.out.chi 5 rfl
  have hng : ¬ ((⟨g, 19, none⟩ : Addr).block = w.heap.size + 2 ∨ (⟨g, 19, none⟩ : Addr).block = w.heap.size + 3) := fun e => by simp only at e; omega
  have HGz := Lib.hid ((HG7.out).drew)
  have HR2 : Hid ((u7).drew.heap[w.heap.size + 2]? = some (.cells #[.int .i64 0, .int .i64 0, .bool false, .int .u32 0, .int .u32 0, .int .u32 0, .int .u32 0, .int .u32 0, .int .u32 0, .int .u32 0, .int .u32 0, .int .u32 0, .int .u8 0, .slice none 0 0] 69 (0, 0))) := HR2z
  have HR3 : Hid ((u7).drew.heap[w.heap.size + 3]? = some (.cells #[.int .i64 0, .int .i64 0, .int .i64 0, .slice none 0 0, .slice none 0 0] 313 (0, 0))) := HR3z
  refine wp_region_held_drew (S := Chg (fun b => b = w.heap.size + 2 ∨ b = w.heap.size + 3) (u7).drew) (by kernel_rfl) (Chg.refl _ _) (fun hHeld => ?_)
  clear hHeld hx9
  refine hp 0 56 (.pointer (some ⟨g, 0, none⟩)) rfl ((Chg.refl _ _)) ?_
  refine hp 1 57 (.pointer (some ⟨g, 0, none⟩)) rfl ((Chg.refl _ _)) ?_
  refine hp 2 58 (.pointer (some ⟨g, 0, none⟩)) rfl ((Chg.refl _ _)) ?_
  refine h_load 3 (some 59) 69 (.tmp 58) g 0 _ _ rfl (by kernel_rfl) (by kernel_rfl) (by kernel_rfl) (by kernel_rfl) (by kernel_rfl) (fun _ _ _ h => h) (by kernel_rfl) (by kernel_rfl) (fun W hW => range_keepS HXd.out.rangeP hW (by omega)) Tryz.underlying69 rfl (by rw [partC_size HXd.out.r8]; exact info_part) ((Chg.refl _ _)) ?_
  simp only [Act.put, sA, sB, sC]
  refine hp 4 60 (.pointer (some ⟨g, 0, none⟩)) rfl ((Chg.refl _ _)) ?_
  refine hp 5 61 (.pointer (some ⟨g, 0, none⟩)) rfl ((Chg.refl _ _)) ?_
  refine hp 6 62 (.pointer (some ⟨g, 14, none⟩)) rfl ((Chg.refl _ _)) ?_
  refine h_load 7 (some 63) 313 (.tmp 62) g 14 #[.int .i64 (w9).frames, .int .i64 (w9).tick, .int .i64 (w9).ver, vq9, vi9] _ rfl (by kernel_rfl) (by kernel_rfl) (by kernel_rfl) (by kernel_rfl) (by kernel_rfl) (fun _ _ _ h => h) (by kernel_rfl) (by kernel_rfl) (fun W hW => range_keepS HXd.out.rangeW hW (by omega)) Tryz.underlying313 rfl (by kernel_rfl) ((Chg.refl _ _)) ?_
  simp only [Act.put, sA, sB, sC]
  refine hp 8 64 (.pointer (some ⟨g, 0, none⟩)) rfl ((Chg.refl _ _)) ?_
  refine hp 9 65 (.pointer (some ⟨g, 0, none⟩)) rfl ((Chg.refl _ _)) ?_
  refine hp 10 66 (.pointer (some ⟨g, 19, none⟩)) rfl ((Chg.refl _ _)) ?_
  refine hp 11 67 (.bool false) rfl ((Chg.refl _ _)) ?_ (he := (fun W hW => by have hc := hW.cell_some c19 hng; go_simp))
  refine h_store 12 69 (.tmp 6) (.tmp 59) (w.heap.size + 2) (partC (p9) m9) (by kernel_rfl) rfl (by kernel_rfl) rfl rfl rfl rfl 69 ⟨_, HR2.out, by rw [partC_size HXd.out.r8]; rfl⟩ (by rw [partC_size HXd.out.r8]; exact info_part) (partC_one _ _ ho9) (fun W hg hb => hg.mono (fun x e => .inl e)) ?_
  intro W1 hgW1 hbW1
  have HR3' := Lib.hid (blk_keep HR3.out hgW1 (fun e => by omega))
  refine h_store 13 313 (.tmp 7) (.tmp 63) (w.heap.size + 3) #[.int .i64 (w9).frames, .int .i64 (w9).tick, .int .i64 (w9).ver, vq9, vi9] (by kernel_rfl) rfl (by kernel_rfl) rfl rfl rfl rfl 313 ⟨_, HR3'.out, rfl⟩ (by kernel_rfl) (by simp [Value.oneCell']; exact ⟨hoq9, hoi9⟩) (fun W hg hb => (hgW1.mono (fun x e => .inl e)).trans_same (hg.mono (fun x e => .inr e))) ?_
  intro W2 hgW2 hbW2
  have HGR : Hid (Chg (fun b => b = w.heap.size + 2 ∨ b = w.heap.size + 3) _ W2) := Lib.hid ((hgW1.mono (fun x e => .inl e)).trans_same (hgW2.mono (fun x e => .inr e)))
  have HRP := Lib.hid (blk_keep hbW1 hgW2 (fun e => by omega))
  refine hp 14 8 (.bool false) rfl HGR.out ?_
  refine hp 15 9 (.int .i64 0) rfl HGR.out ?_
  refine wpAnyH_done (by kernel_rfl) ?_ _
  go_wp2_with fail
  obtain ⟨k1, k2, k3⟩ := HXd.out.handed (C := w.heap.size) HGR.out hB4
  refine bodyPost_ret (res_cctt Tryz.results231 _ _ (w.heap.size + 2) (w.heap.size + 3) 69 313 (partC (p9) m9) #[.int .i64 (w9).frames, .int .i64 (w9).tick, .int .i64 (w9).ver, vq9, vi9] (0, 0) (0, 0) _ _ _ _ rfl rfl rfl rfl HRP.out hbW2 Tryz.underlying69 rfl (by rw [partC_size HXd.out.r8]; exact info_part) Tryz.underlying313 rfl (by kernel_rfl)) rfl ?_
  rw [HE.out]
  exact ⟨m9, vq9, vi9, rfl, HXd.out.bd, k1, k2, k3, HGz.out.then_new HGR.out (fun x e => by omega)⟩
 ·have fy : W6.cell? ⟨y, 9, none⟩ = some (.func (.func 262) #[.pointer (some ⟨g, 0, none⟩)] #[]) := blk_cell HY.out 9 rfl
  go_wp2_with fail
  refine (cInput_ok B W6 g p wl false _ vq2 vi2 HX.out).mono ?_
  rintro e u7 ⟨rfl, hx, hg7⟩
  obtain ⟨p9, w9, HE, hx9⟩ : ∃ p9 w9, doV 4 p wl = (p9, w9, false) ∧ ∃ m vq vi, CalX B u7 g p9 w9 false m vq vi := ⟨_, _, by simp [doV], hx⟩
  replace HE := Lib.hid HE
  have HX7 := Lib.hid hx9
  have HG7 := Lib.hid (HGw.out.then_new hg7 (fun x e => by have : B ≤ x := e; omega))
  have HR2z := Lib.hid (blk_keep HR2z.out hg7 (fun e => by have : B ≤ _ := e; omega))
  have HR3z := Lib.hid (blk_keep HR3z.out hg7 (fun e => by have : B ≤ _ := e; omega))
  clear hx hx9 hg7 fy
  go_wp2_with fail
  obtain ⟨m9, vq9, vi9, hx9⟩ : ∃ m vq vi, CalX B u7 g (p9) (w9) false m vq vi := HX7.out
  have HXd := Lib.hid (hx9.non ((Chg.refl Non u7).drew))
  have ho9 : m9.oneCell' = true := by obtain ⟨A, c, e, _⟩ := hx9.mem; rw [e]; rfl
  have hoq9 : vq9.oneCell' = true := by obtain ⟨A, c, e, _⟩ := hx9.qs.rd; rw [e]; rfl
  have hoi9 : vi9.oneCell' = true := by obtain ⟨A, c, e, _⟩ := hx9.inp; rw [e]; rfl
  have c19 : World.cell? (u7).drew ⟨g, 19, none⟩ = some (.bool false) := HXd.out.chi 5 rfl
  have hng : ¬ ((⟨g, 19, none⟩ : Addr).block = w.heap.size + 2 ∨ (⟨g, 19, none⟩ : Addr).block = w.heap.size + 3) := fun e => by simp only at e; omega
  have HGz := Lib.hid ((HG7.out).drew)
  have HR2 : Hid ((u7).drew.heap[w.heap.size + 2]? = some (.cells #[.int .i64 0, .int .i64 0, .bool false, .int .u32 0, .int .u32 0, .int .u32 0, .int .u32 0, .int .u32 0, .int .u32 0, .int .u32 0, .int .u32 0, .int .u32 0, .int .u8 0, .slice none 0 0] 69 (0, 0))) := HR2z
  have HR3 : Hid ((u7).drew.heap[w.heap.size + 3]? = some (.cells #[.int .i64 0, .int .i64 0, .int .i64 0, .slice none 0 0, .slice none 0 0] 313 (0, 0))) := HR3z
  refine wp_region_held_drew (S := Chg (fun b => b = w.heap.size + 2 ∨ b = w.heap.size + 3) (u7).drew) (by kernel_rfl) (Chg.refl _ _) (fun hHeld => ?_)
  clear hHeld hx9
  refine hp 0 56 (.pointer (some ⟨g, 0, none⟩)) rfl ((Chg.refl _ _)) ?_
  refine hp 1 57 (.pointer (some ⟨g, 0, none⟩)) rfl ((Chg.refl _ _)) ?_
  refine hp 2 58 (.pointer (some ⟨g, 0, none⟩)) rfl ((Chg.refl _ _)) ?_
  refine h_load 3 (some 59) 69 (.tmp 58) g 0 _ _ rfl (by kernel_rfl) (by kernel_rfl) (by kernel_rfl) (by kernel_rfl) (by kernel_rfl) (fun _ _ _ h => h) (by kernel_rfl) (by kernel_rfl) (fun W hW => range_keepS HXd.out.rangeP hW (by omega)) Tryz.underlying69 rfl (by rw [partC_size HXd.out.r8]; exact info_part) ((Chg.refl _ _)) ?_
  simp only [Act.put, sA, sB, sC]
  refine hp 4 60 (.pointer (some ⟨g, 0, none⟩)) rfl ((Chg.refl _ _)) ?_
  refine hp 5 61 (.pointer (some ⟨g, 0, none⟩)) rfl ((Chg.refl _ _)) ?_
  refine hp 6 62 (.pointer (some ⟨g, 14, none⟩)) rfl ((Chg.refl _ _)) ?_
  refine h_load 7 (some 63) 313 (.tmp 62) g 14 #[.int .i64 (w9).frames, .int .i64 (w9).tick, .int .i64 (w9).ver, vq9, vi9] _ rfl (by kernel_rfl) (by kernel_rfl) (by kernel_rfl) (by kernel_rfl) (by kernel_rfl) (fun _ _ _ h => h) (by kernel_rfl) (by kernel_rfl) (fun W hW => range_keepS HXd.out.rangeW hW (by omega)) Tryz.underlying313 rfl (by kernel_rfl) ((Chg.refl _ _)) ?_
  simp only [Act.put, sA, sB, sC]
  refine hp 8 64 (.pointer (some ⟨g, 0, none⟩)) rfl ((Chg.refl _ _)) ?_
  refine hp 9 65 (.pointer (some ⟨g, 0, none⟩)) rfl ((Chg.refl _ _)) ?_
  refine hp 10 66 (.pointer (some ⟨g, 19, none⟩)) rfl ((Chg.refl _ _)) ?_
  refine hp 11 67 (.bool false) rfl ((Chg.refl _ _)) ?_ (he := (fun W hW => by have hc := hW.cell_some c19 hng; go_simp))
  refine h_store 12 69 (.tmp 6) (.tmp 59) (w.heap.size + 2) (partC (p9) m9) (by kernel_rfl) rfl (by kernel_rfl) rfl rfl rfl rfl 69 ⟨_, HR2.out, by rw [partC_size HXd.out.r8]; rfl⟩ (by rw [partC_size HXd.out.r8]; exact info_part) (partC_one _ _ ho9) (fun W hg hb => hg.mono (fun x e => .inl e)) ?_
  intro W1 hgW1 hbW1
  have HR3' := Lib.hid (blk_keep HR3.out hgW1 (fun e => by omega))
  refine h_store 13 313 (.tmp 7) (.tmp 63) (w.heap.size + 3) #[.int .i64 (w9).frames, .int .i64 (w9).tick, .int .i64 (w9).ver, vq9, vi9] (by kernel_rfl) rfl (by kernel_rfl) rfl rfl rfl rfl 313 ⟨_, HR3'.out, rfl⟩ (by kernel_rfl) (by simp [Value.oneCell']; exact ⟨hoq9, hoi9⟩) (fun W hg hb => (hgW1.mono (fun x e => .inl e)).trans_same (hg.mono (fun x e => .inr e))) ?_
  intro W2 hgW2 hbW2
  have HGR : Hid (Chg (fun b => b = w.heap.size + 2 ∨ b = w.heap.size + 3) _ W2) := Lib.hid ((hgW1.mono (fun x e => .inl e)).trans_same (hgW2.mono (fun x e => .inr e)))
  have HRP := Lib.hid (blk_keep hbW1 hgW2 (fun e => by omega))
  refine hp 14 8 (.bool false) rfl HGR.out ?_
  refine hp 15 9 (.int .i64 0) rfl HGR.out ?_
  refine wpAnyH_done (by kernel_rfl) ?_ _
  go_wp2_with fail
  obtain ⟨k1, k2, k3⟩ := HXd.out.handed (C := w.heap.size) HGR.out hB4
  refine bodyPost_ret (res_cctt Tryz.results231 _ _ (w.heap.size + 2) (w.heap.size + 3) 69 313 (partC (p9) m9) #[.int .i64 (w9).frames, .int .i64 (w9).tick, .int .i64 (w9).ver, vq9, vi9] (0, 0) (0, 0) _ _ _ _ rfl rfl rfl rfl HRP.out hbW2 Tryz.underlying69 rfl (by rw [partC_size HXd.out.r8]; exact info_part) Tryz.underlying313 rfl (by kernel_rfl)) rfl ?_
  rw [HE.out]
  exact ⟨m9, vq9, vi9, rfl, HXd.out.bd, k1, k2, k3, HGz.out.then_new HGR.out (fun x e => by omega)⟩
 ·have fy : W6.cell? ⟨y, 11, none⟩ = some (.func (.func 263) #[.pointer (some ⟨g, 0, none⟩)] #[]) := blk_cell HY.out 11 rfl
  go_wp2_with fail
  refine (cSelf_ok B W6 g p wl false _ vq2 vi2 hv HX.out).mono ?_
  rintro e u7 ⟨rfl, hx, hg7⟩
  obtain ⟨p9, w9, HE, hx9⟩ : ∃ p9 w9, doV 5 p wl = (p9, w9, false) ∧ ∃ m vq vi, CalX B u7 g p9 w9 false m vq vi := ⟨_, _, by simp [doV], hx⟩
  replace HE := Lib.hid HE
  have HX7 := Lib.hid hx9
  have HG7 := Lib.hid (HGw.out.then_new hg7 (fun x e => by have : B ≤ x := e; omega))
  have HR2z := Lib.hid (blk_keep HR2z.out hg7 (fun e => by have : B ≤ _ := e; omega))
  have HR3z := Lib.hid (blk_keep HR3z.out hg7 (fun e => by have : B ≤ _ := e; omega))
  clear hx hx9 hg7 fy
  go_wp2_with fail
  obtain ⟨m9, vq9, vi9, hx9⟩ : ∃ m vq vi, CalX B u7 g (p9) (w9) false m vq vi := HX7.out
  have HXd := Lib.hid (hx9.non ((Chg.refl Non u7).drew))
  have ho9 : m9.oneCell' = true := by obtain ⟨A, c, e, _⟩ := hx9.mem; rw [e]; rfl
  have hoq9 : vq9.oneCell' = true := by obtain ⟨A, c, e, _⟩ := hx9.qs.rd; rw [e]; rfl
  have hoi9 : vi9.oneCell' = true := by obtain ⟨A, c, e, _⟩ := hx9.inp; rw [e]; rfl
  have c19 : World.cell? (u7).drew ⟨g, 19, none⟩ = some (.bool false) := HXd.out.chi 5 rfl
  have hng : ¬ ((⟨g, 19, none⟩ : Addr).block = w.heap.size + 2 ∨ (⟨g, 19, none⟩ : Addr).block = w.heap.size + 3) := fun e => by simp only at e; omega
  have HGz := Lib.hid ((HG7.out).drew)
  have HR2 : Hid ((u7).drew.heap[w.heap.size + 2]? = some (.cells #[.int .i64 0, .int .i64 0, .bool false, .int .u32 0, .int .u32 0, .int .u32 0, .int .u32 0, .int .u32 0, .int .u32 0, .int .u32 0, .int .u32 0, .int .u32 0, .int .u8 0, .slice none 0 0] 69 (0, 0))) := HR2z
  have HR3 : Hid ((u7).drew.heap[w.heap.size + 3]? = some (.cells #[.int .i64 0, .int .i64 0, .int .i64 0, .slice none 0 0, .slice none 0 0] 313 (0, 0))) := HR3z
  refine wp_region_held_drew (S := Chg (fun b => b = w.heap.size + 2 ∨ b = w.heap.size + 3) (u7).drew) (by kernel_rfl) (Chg.refl _ _) (fun hHeld => ?_)
  clear hHeld hx9
  refine hp 0 56 (.pointer (some ⟨g, 0, none⟩)) rfl ((Chg.refl _ _)) ?_
  refine hp 1 57 (.pointer (some ⟨g, 0, none⟩)) rfl ((Chg.refl _ _)) ?_
  refine hp 2 58 (.pointer (some ⟨g, 0, none⟩)) rfl ((Chg.refl _ _)) ?_
  refine h_load 3 (some 59) 69 (.tmp 58) g 0 _ _ rfl (by kernel_rfl) (by kernel_rfl) (by kernel_rfl) (by kernel_rfl) (by kernel_rfl) (fun _ _ _ h => h) (by kernel_rfl) (by kernel_rfl) (fun W hW => range_keepS HXd.out.rangeP hW (by omega)) Tryz.underlying69 rfl (by rw [partC_size HXd.out.r8]; exact info_part) ((Chg.refl _ _)) ?_
  simp only [Act.put, sA, sB, sC]
  refine hp 4 60 (.pointer (some ⟨g, 0, none⟩)) rfl ((Chg.refl _ _)) ?_
  refine hp 5 61 (.pointer (some ⟨g, 0, none⟩)) rfl ((Chg.refl _ _)) ?_
  refine hp 6 62 (.pointer (some ⟨g, 14, none⟩)) rfl ((Chg.refl _ _)) ?_
  refine h_load 7 (some 63) 313 (.tmp 62) g 14 #[.int .i64 (w9).frames, .int .i64 (w9).tick, .int .i64 (w9).ver, vq9, vi9] _ rfl (by kernel_rfl) (by kernel_rfl) (by kernel_rfl) (by kernel_rfl) (by kernel_rfl) (fun _ _ _ h => h) (by kernel_rfl) (by kernel_rfl) (fun W hW => range_keepS HXd.out.rangeW hW (by omega)) Tryz.underlying313 rfl (by kernel_rfl) ((Chg.refl _ _)) ?_
  simp only [Act.put, sA, sB, sC]
  refine hp 8 64 (.pointer (some ⟨g, 0, none⟩)) rfl ((Chg.refl _ _)) ?_
  refine hp 9 65 (.pointer (some ⟨g, 0, none⟩)) rfl ((Chg.refl _ _)) ?_
  refine hp 10 66 (.pointer (some ⟨g, 19, none⟩)) rfl ((Chg.refl _ _)) ?_
  refine hp 11 67 (.bool false) rfl ((Chg.refl _ _)) ?_ (he := (fun W hW => by have hc := hW.cell_some c19 hng; go_simp))
  refine h_store 12 69 (.tmp 6) (.tmp 59) (w.heap.size + 2) (partC (p9) m9) (by kernel_rfl) rfl (by kernel_rfl) rfl rfl rfl rfl 69 ⟨_, HR2.out, by rw [partC_size HXd.out.r8]; rfl⟩ (by rw [partC_size HXd.out.r8]; exact info_part) (partC_one _ _ ho9) (fun W hg hb => hg.mono (fun x e => .inl e)) ?_
  intro W1 hgW1 hbW1
  have HR3' := Lib.hid (blk_keep HR3.out hgW1 (fun e => by omega))
  refine h_store 13 313 (.tmp 7) (.tmp 63) (w.heap.size + 3) #[.int .i64 (w9).frames, .int .i64 (w9).tick, .int .i64 (w9).ver, vq9, vi9] (by kernel_rfl) rfl (by kernel_rfl) rfl rfl rfl rfl 313 ⟨_, HR3'.out, rfl⟩ (by kernel_rfl) (by simp [Value.oneCell']; exact ⟨hoq9, hoi9⟩) (fun W hg hb => (hgW1.mono (fun x e => .inl e)).trans_same (hg.mono (fun x e => .inr e))) ?_
  intro W2 hgW2 hbW2
  have HGR : Hid (Chg (fun b => b = w.heap.size + 2 ∨ b = w.heap.size + 3) _ W2) := Lib.hid ((hgW1.mono (fun x e => .inl e)).trans_same (hgW2.mono (fun x e => .inr e)))
  have HRP := Lib.hid (blk_keep hbW1 hgW2 (fun e => by omega))
  refine hp 14 8 (.bool false) rfl HGR.out ?_
  refine hp 15 9 (.int .i64 0) rfl HGR.out ?_
  refine wpAnyH_done (by kernel_rfl) ?_ _
  go_wp2_with fail
  obtain ⟨k1, k2, k3⟩ := HXd.out.handed (C := w.heap.size) HGR.out hB4
  refine bodyPost_ret (res_cctt Tryz.results231 _ _ (w.heap.size + 2) (w.heap.size + 3) 69 313 (partC (p9) m9) #[.int .i64 (w9).frames, .int .i64 (w9).tick, .int .i64 (w9).ver, vq9, vi9] (0, 0) (0, 0) _ _ _ _ rfl rfl rfl rfl HRP.out hbW2 Tryz.underlying69 rfl (by rw [partC_size HXd.out.r8]; exact info_part) Tryz.underlying313 rfl (by kernel_rfl)) rfl ?_
  rw [HE.out]
  exact ⟨m9, vq9, vi9, rfl, HXd.out.bd, k1, k2, k3, HGz.out.then_new HGR.out (fun x e => by omega)⟩
 ·have fy : W6.cell? ⟨y, 13, none⟩ = some (.func (.func 264) #[.pointer (some ⟨g, 0, none⟩)] #[]) := blk_cell HY.out 13 rfl
  go_wp2_with fail
  refine (cHalt_ok B W6 g p wl false _ vq2 vi2 HX.out).mono ?_
  rintro e u7 ⟨rfl, hx, hg7⟩
  obtain ⟨p9, w9, HE, hx9⟩ : ∃ p9 w9, doV 6 p wl = (p9, w9, false) ∧ ∃ m vq vi, CalX B u7 g p9 w9 false m vq vi := ⟨_, _, by simp [doV], hx⟩
  replace HE := Lib.hid HE
  have HX7 := Lib.hid hx9
  have HG7 := Lib.hid (HGw.out.then_new hg7 (fun x e => by have : B ≤ x := e; omega))
  have HR2z := Lib.hid (blk_keep HR2z.out hg7 (fun e => by have : B ≤ _ := e; omega))
  have HR3z := Lib.hid (blk_keep HR3z.out hg7 (fun e => by have : B ≤ _ := e; omega))
  clear hx hx9 hg7 fy
  go_wp2_with fail
  obtain ⟨m9, vq9, vi9, hx9⟩ : ∃ m vq vi, CalX B u7 g (p9) (w9) false m vq vi := HX7.out
  have HXd := Lib.hid (hx9.non ((Chg.refl Non u7).drew))
  have ho9 : m9.oneCell' = true := by obtain ⟨A, c, e, _⟩ := hx9.mem; rw [e]; rfl
  have hoq9 : vq9.oneCell' = true := by obtain ⟨A, c, e, _⟩ := hx9.qs.rd; rw [e]; rfl
  have hoi9 : vi9.oneCell' = true := by obtain ⟨A, c, e, _⟩ := hx9.inp; rw [e]; rfl
  have c19 : World.cell? (u7).drew ⟨g, 19, none⟩ = some (.bool false) := HXd.out.chi 5 rfl
  have hng : ¬ ((⟨g, 19, none⟩ : Addr).block = w.heap.size + 2 ∨ (⟨g, 19, none⟩ : Addr).block = w.heap.size + 3) := fun e => by simp only at e; omega
  have HGz := Lib.hid ((HG7.out).drew)
  have HR2 : Hid ((u7).drew.heap[w.heap.size + 2]? = some (.cells #[.int .i64 0, .int .i64 0, .bool false, .int .u32 0, .int .u32 0, .int .u32 0, .int .u32 0, .int .u32 0, .int .u32 0, .int .u32 0, .int .u32 0, .int .u32 0, .int .u8 0, .slice none 0 0] 69 (0, 0))) := HR2z
  have HR3 : Hid ((u7).drew.heap[w.heap.size + 3]? = some (.cells #[.int .i64 0, .int .i64 0, .int .i64 0, .slice none 0 0, .slice none 0 0] 313 (0, 0))) := HR3z
  refine wp_region_held_drew (S := Chg (fun b => b = w.heap.size + 2 ∨ b = w.heap.size + 3) (u7).drew) (by kernel_rfl) (Chg.refl _ _) (fun hHeld => ?_)
  clear hHeld hx9
  refine hp 0 56 (.pointer (some ⟨g, 0, none⟩)) rfl ((Chg.refl _ _)) ?_
  refine hp 1 57 (.pointer (some ⟨g, 0, none⟩)) rfl ((Chg.refl _ _)) ?_
  refine hp 2 58 (.pointer (some ⟨g, 0, none⟩)) rfl ((Chg.refl _ _)) ?_
  refine h_load 3 (some 59) 69 (.tmp 58) g 0 _ _ rfl (by kernel_rfl) (by kernel_rfl) (by kernel_rfl) (by kernel_rfl) (by kernel_rfl) (fun _ _ _ h => h) (by kernel_rfl) (by kernel_rfl) (fun W hW => range_keepS HXd.out.rangeP hW (by omega)) Tryz.underlying69 rfl (by rw [partC_size HXd.out.r8]; exact info_part) ((Chg.refl _ _)) ?_
  simp only [Act.put, sA, sB, sC]
  refine hp 4 60 (.pointer (some ⟨g, 0, none⟩)) rfl ((Chg.refl _ _)) ?_
  refine hp 5 61 (.pointer (some ⟨g, 0, none⟩)) rfl ((Chg.refl _ _)) ?_
  refine hp 6 62 (.pointer (some ⟨g, 14, none⟩)) rfl ((Chg.refl _ _)) ?_
  refine h_load 7 (some 63) 313 (.tmp 62) g 14 #[.int .i64 (w9).frames, .int .i64 (w9).tick, .int .i64 (w9).ver, vq9, vi9] _ rfl (by kernel_rfl) (by kernel_rfl) (by kernel_rfl) (by kernel_rfl) (by kernel_rfl) (fun _ _ _ h => h) (by kernel_rfl) (by kernel_rfl) (fun W hW => range_keepS HXd.out.rangeW hW (by omega)) Tryz.underlying313 rfl (by kernel_rfl) ((Chg.refl _ _)) ?_
  simp only [Act.put, sA, sB, sC]
  refine hp 8 64 (.pointer (some ⟨g, 0, none⟩)) rfl ((Chg.refl _ _)) ?_
  refine hp 9 65 (.pointer (some ⟨g, 0, none⟩)) rfl ((Chg.refl _ _)) ?_
  refine hp 10 66 (.pointer (some ⟨g, 19, none⟩)) rfl ((Chg.refl _ _)) ?_
  refine hp 11 67 (.bool false) rfl ((Chg.refl _ _)) ?_ (he := (fun W hW => by have hc := hW.cell_some c19 hng; go_simp))
  refine h_store 12 69 (.tmp 6) (.tmp 59) (w.heap.size + 2) (partC (p9) m9) (by kernel_rfl) rfl (by kernel_rfl) rfl rfl rfl rfl 69 ⟨_, HR2.out, by rw [partC_size HXd.out.r8]; rfl⟩ (by rw [partC_size HXd.out.r8]; exact info_part) (partC_one _ _ ho9) (fun W hg hb => hg.mono (fun x e => .inl e)) ?_
  intro W1 hgW1 hbW1
  have HR3' := Lib.hid (blk_keep HR3.out hgW1 (fun e => by omega))
  refine h_store 13 313 (.tmp 7) (.tmp 63) (w.heap.size + 3) #[.int .i64 (w9).frames, .int .i64 (w9).tick, .int .i64 (w9).ver, vq9, vi9] (by kernel_rfl) rfl (by kernel_rfl) rfl rfl rfl rfl 313 ⟨_, HR3'.out, rfl⟩ (by kernel_rfl) (by simp [Value.oneCell']; exact ⟨hoq9, hoi9⟩) (fun W hg hb => (hgW1.mono (fun x e => .inl e)).trans_same (hg.mono (fun x e => .inr e))) ?_
  intro W2 hgW2 hbW2
  have HGR : Hid (Chg (fun b => b = w.heap.size + 2 ∨ b = w.heap.size + 3) _ W2) := Lib.hid ((hgW1.mono (fun x e => .inl e)).trans_same (hgW2.mono (fun x e => .inr e)))
  have HRP := Lib.hid (blk_keep hbW1 hgW2 (fun e => by omega))
  refine hp 14 8 (.bool false) rfl HGR.out ?_
  refine hp 15 9 (.int .i64 0) rfl HGR.out ?_
  refine wpAnyH_done (by kernel_rfl) ?_ _
  go_wp2_with fail
  obtain ⟨k1, k2, k3⟩ := HXd.out.handed (C := w.heap.size) HGR.out hB4
  refine bodyPost_ret (res_cctt Tryz.results231 _ _ (w.heap.size + 2) (w.heap.size + 3) 69 313 (partC (p9) m9) #[.int .i64 (w9).frames, .int .i64 (w9).tick, .int .i64 (w9).ver, vq9, vi9] (0, 0) (0, 0) _ _ _ _ rfl rfl rfl rfl HRP.out hbW2 Tryz.underlying69 rfl (by rw [partC_size HXd.out.r8]; exact info_part) Tryz.underlying313 rfl (by kernel_rfl)) rfl ?_
  rw [HE.out]
  exact ⟨m9, vq9, vi9, rfl, HXd.out.bd, k1, k2, k3, HGz.out.then_new HGR.out (fun x e => by omega)⟩
end
end Go.Proofs.YtmnaleaghfbclaaGreatDoor
