/- KernelTime, part 9 of 28: contracts of the functions that it reaches, and the laws that they need, merged and shortened (from my texts XValF, XClone, XFill). -/
import Derived.Test.YtmnaleaghfbclaaGreatDoorMgKernelTimeH
import Derived.Laws.CopyOwn
namespace Go.Proofs.YtmnaleaghfbclaaGreatDoor
set_option linter.unusedVariables false
set_option linter.unusedSimpArgs false
set_option maxHeartbeats 8000000
section
open Go.RowKit
structure CfgR (I : Nat → Prop) (w : World) (c : Cfg) (A1 A2 A3 : Option Addr) (c1 c2 c3 : Nat) : Prop where
 ws : RdL winV I 2 w A1 c.ws
 ps : RdL (pnV I) I 5 w A2 c.ps
 cs : RdL chV I 5 w A3 c.cs
 l1 : c.ws.length ≤ c1 ∧ c1 ≤ maxLen
 l2 : c.ps.length ≤ c2 ∧ c2 ≤ maxLen
 l3 : c.cs.length ≤ c3 ∧ c3 ≤ maxLen
theorem CfgR.non {I : Nat → Prop} {w w' : World} {c : Cfg} {A1 A2 A3 : Option Addr} {c1 c2 c3 : Nat} (h : CfgR I w c A1 A2 A3 c1 c2 c3) (hg : Chg Non w w') : CfgR I w' c A1 A2 A3 c1 c2 c3 :=
 ⟨h.ws.non hg (fun _ _ h => h), h.ps.non hg (fun a vs h => pnV_non _ _ _ _ hg h), h.cs.non hg (fun _ _ h => h), h.l1, h.l2, h.l3⟩
theorem CfgR.box {I : Nat → Prop} {w : World} {c : Cfg} {A1 A2 A3 : Option Addr} {c1 c2 c3 : Nat} (h : CfgR I w c A1 A2 A3 c1 c2 c3) : ∀ W g, Chg Non w W → W.heap[g]? = some (.cells #[.slice A1 c.ws.length c1, .slice A2 c.ps.length c2, .slice A3 c.cs.length c3] 26 (0, 0)) → CfgB I W c g A1 A2 A3 c1 c2 c3 := fun W g hg hb =>
 ⟨hb, (h.non hg).ws, (h.non hg).ps, (h.non hg).cs, h.l1, h.l2, h.l3⟩
def ErrsP (l : List Int) (w : World) (e : Ending) (w' : World) : Prop := ∃ v, e = .returned v ∧ OwnL errV w.heap.size 40 1 w' v l ∧ Chg Non w w'
set_option maxRecDepth 100000 in
theorem vAll_ok (I : Nat → Prop) (w : World) (c : Cfg) (A1 A2 A3 : Option Addr) (c1 c2 c3 : Nat) (h : CfgR I w c A1 A2 A3 c1 c2 c3) (h20 : c.ps.length ≤ 1000) :
  Calls Tryz.prog 111 #[.agg #[.slice A1 c.ws.length c1, .slice A2 c.ps.length c2, .slice A3 c.cs.length c3]] w (ErrsP (errsTo c 5) w) := by
 have HRl := Lib.hid (fun W => rules_ok W)
 have H0 := Lib.hid (fun W (hg : Chg Non w W) => windows_ok I W c A1 A2 A3 c1 c2 c3 (h.non hg).box)
 have H1 := Lib.hid (fun W (hg : Chg Non w W) => parts_ok I W (.slice A1 c.ws.length c1) (.slice A3 c.cs.length c3) A2 c.ps c2 (h.non hg).ps h.l2.1 h.l2.2 rfl rfl)
 have H2 := Lib.hid (fun W (hg : Chg Non w W) => regions_ok I W c (.slice A1 c.ws.length c1) (.slice A3 c.cs.length c3) A2 c2 (h.non hg).ps h.l2.1 h.l2.2 rfl rfl)
 have H3 := Lib.hid (fun W (hg : Chg Non w W) => overlap_ok I W (.slice A1 c.ws.length c1) (.slice A3 c.cs.length c3) A2 c.ps c2 (h.non hg).ps h.l2.1 h.l2.2 h20 rfl rfl)
 have H4 := Lib.hid (fun W (hg : Chg Non w W) => channels_ok I W c A1 A2 A3 c1 c2 c3 (h.non hg).box)
 clear h
 obtain ⟨q0, hq0⟩ : ∃ q, windowsBad c = q := ⟨_, rfl⟩
 obtain ⟨q1, hq1⟩ : ∃ q, partsBad c.ps = q := ⟨_, rfl⟩
 obtain ⟨q2, hq2⟩ : ∃ q, regionsBad c = q := ⟨_, rfl⟩
 obtain ⟨q3, hq3⟩ : ∃ q, overlapBad c.ps = q := ⟨_, rfl⟩
 obtain ⟨q4, hq4⟩ : ∃ q, channelsBad c = q := ⟨_, rfl⟩
 have HW : Hid (wrongs c = [(90, q0), (120, q1), (80, q2), (121, q3), (100, q4)]) := Lib.hid (by rw [wrongs, hq0, hq1, hq2, hq3, hq4])
 simp only [hq0] at H0
 simp only [hq1] at H1
 simp only [hq2] at H2
 simp only [hq3] at H3
 simp only [hq4] at H4
 clear hq0 hq1 hq2 hq3 hq4
 have i0 : ∀ W, (Instr.index 221 (.agg rulesV) (.int .i64 0)).run Tryz.prog W = .ok (.agg #[.int .i64 90, .func (.func 149) #[] #[]]) W := fun _ => by kernel_rfl
 have i1 : ∀ W, (Instr.index 221 (.agg rulesV) (.int .i64 1)).run Tryz.prog W = .ok (.agg #[.int .i64 120, .func (.func 150) #[] #[]]) W := fun _ => by kernel_rfl
 have i2 : ∀ W, (Instr.index 221 (.agg rulesV) (.int .i64 2)).run Tryz.prog W = .ok (.agg #[.int .i64 80, .func (.func 151) #[] #[]]) W := fun _ => by kernel_rfl
 have i3 : ∀ W, (Instr.index 221 (.agg rulesV) (.int .i64 3)).run Tryz.prog W = .ok (.agg #[.int .i64 121, .func (.func 152) #[] #[]]) W := fun _ => by kernel_rfl
 have i4 : ∀ W, (Instr.index 221 (.agg rulesV) (.int .i64 4)).run Tryz.prog W = .ok (.agg #[.int .i64 100, .func (.func 153) #[] #[]]) W := fun _ => by kernel_rfl
 go_enter Tryz.func111, Tryz.ntmps111
 go_wp2_with fail
 refine (HRl.out _).mono ?_
 rintro e u ⟨rfl, hg⟩
 have hb1 := blk_call hg
 have HG0 := Lib.hid (((Chg.refl Non w).alloc _).then_non hg)
 have HB1 := Lib.hid hb1
 clear hg hb1 HRl
 go_wp2_with fail
 go_loopw [7, 3] (fun iv lv wr => ∃ k : Nat, k ≤ 5 ∧ iv = .int .i64 k ∧ Hid (OwnL errV w.heap.size 40 1 wr lv (errsTo c k)) ∧ Hid (wr.heap[w.heap.size]? = some (.cells #[.slice A1 c.ws.length c1, .slice A2 c.ps.length c2, .slice A3 c.cs.length c3] 26 (0, 0))) ∧ Hid (∀ g, lv.ownBlock = some g → w.heap.size < g) ∧ Hid (Chg Non w wr)) (fun iv _ _ => 5 - (intOf iv).toNat)
 case atStart => exact ⟨0, Nat.zero_le _, rfl, Lib.hid (OwnL.nil _ _ _ _ _), HB1, Lib.hid (fun g e => by simp [Value.ownBlock] at e), HG0⟩
 case round =>
  obtain ⟨k, hk, rfl, HO, HB, HX, HG⟩ := hrel
  have b0 := blk_cell HB.out 0 (v := .slice A1 c.ws.length c1) rfl
  have b1 := blk_cell HB.out 1 (v := .slice A2 c.ps.length c2) rfl
  have b2 := blk_cell HB.out 2 (v := .slice A3 c.cs.length c3) rfl
  have hwl := blk_lt HB.out
  by_cases hlt : k < 5
  ·have : k = 0 ∨ k = 1 ∨ k = 2 ∨ k = 3 ∨ k = 4 := by omega
   rcases this with rfl | rfl | rfl | rfl | rfl
   ·have HS := Lib.hid (fun h => errsTo_succ c (k := 0) (e := 90) (q := q0) h)
    have HS := Lib.hid (HS.out (by rw [HW.out]; rfl))
    clear H1 i1 H2 i2 H3 i3 H4 i4
    go_wp2_with (refine sel none (.store 220 (.tmp 5) (.tmp 9)) ?_
                 refine wpList_store_rowA rfl 220 (.tmp 5) (.tmp 9) rfl wr.heap.size #[.int .i64 90, .func (.func 149) #[] #[]] rfl rfl 220 _ (blk_new _ _) (by kernel_rfl) rfl (by simp [Value.oneCell']) ?_
                 intro V hgV hbV
                 have hgnV : Chg Non wr V := ((Chg.refl Non wr).alloc _).then_new hgV (fun x e => by omega)
                 have b0 := blk_cell (blk_keep HB.out hgnV (fun e => e)) 0 (v := .slice A1 c.ws.length c1) rfl
                 have b1 := blk_cell (blk_keep HB.out hgnV (fun e => e)) 1 (v := .slice A2 c.ps.length c2) rfl
                 have b2 := blk_cell (blk_keep HB.out hgnV (fun e => e)) 2 (v := .slice A3 c.cs.length c3) rfl
                 have z1 := blk_cell hbV 1 (v := .func (.func 149) #[] #[]) rfl
                 have HbV := Lib.hid hbV
                 have HgV := Lib.hid hgnV
                 clear hgV hbV hgnV)
    refine (H0.out _ (HG.out.then_non HgV.out)).mono ?_
    rintro e v ⟨rfl, hg⟩
    have hv0 := blk_keep HbV.out hg (fun e => e)
    have m0 := blk_cell hv0 0 (v := .int .i64 90) rfl
    have HGv := Lib.hid ((HG.out.then_non HgV.out).then_non hg)
    have hgn := HgV.out.then_non hg
    have HBv := Lib.hid (blk_keep HB.out hgn (fun e => e))
    have HOv := Lib.hid (HO.out.non hgn (fun _ _ h => h))
    clear hg hv0 hgn b0 b1 b2
    cases q0 with
    | false =>
     have HO2 : Hid (OwnL errV w.heap.size 40 1 v u3 (errsTo c 1)) := Lib.hid (by rw [HS.out]; exact HOv.out)
     go_wp2_with fail
     exact ⟨⟨1, by omega, by simp, HO2, HBv, HX, HGv⟩, by simp [intOf]⟩
    | true =>
     go_wp2_with (refine sel (some 18) (.call _) ?_; refine Vm_stop ?_)
     refine HoleV.mk ?_
     refine wpList_snocL errV rfl (.tmp 14) (.tmp 17) 190 rfl w.heap.size 40 (.int .i64 0) 1 8 Tryz.underlying190 info_err rfl (by omega) u3 (errsTo c 0) rfl (HOv.out.non ((Chg.refl Non v).alloc _) (fun _ _ h => h)) v.heap.size 90 #[.int .i64 90] 40 rfl (blk_new _ _) rfl (by simp [Value.oneCell']) (by have := errsTo_len c 0; omega) (by omega) (by have := HGv.out.size; simp; omega) (fun _ _ _ _ h => h) rfl ?_
     intro v2 w2 ho hg hv
     have hne : ¬ (u3.ownBlock = some w.heap.size) := fun e => by have := HX.out _ e; omega
     have HO2 : Hid (OwnL errV w.heap.size 40 1 w2 v2 (errsTo c 1)) := Lib.hid (by rw [HS.out, if_pos (by trivial)]; exact ho)
     have HG2 : Hid (Chg Non w w2) := Lib.hid ((HGv.out.alloc _).then_new hg (fun x e => (HOv.out.ge e).1))
     have HB2 := Lib.hid (blk_keep (blk_keep HBv.out ((Chg.refl Non v).alloc _) (fun e => e)) hg hne)
     have HX2 : Hid (∀ g, v2.ownBlock = some g → w.heap.size < g) := Lib.hid (fun g e => by
       rcases hv g e with h | h
       · exact HX.out g h
       · have := blk_lt HBv.out
         simp at h
         omega)
     clear ho hg hv hne
     go_wp2_with fail
     exact ⟨⟨1, by omega, by simp, HO2, HB2, HX2, HG2⟩, by simp [intOf]⟩
   ·have HS := Lib.hid (fun h => errsTo_succ c (k := 1) (e := 120) (q := q1) h)
    have HS := Lib.hid (HS.out (by rw [HW.out]; rfl))
    clear H0 i0 H2 i2 H3 i3 H4 i4
    go_wp2_with (refine sel none (.store 220 (.tmp 5) (.tmp 9)) ?_
                 refine wpList_store_rowA rfl 220 (.tmp 5) (.tmp 9) rfl wr.heap.size #[.int .i64 120, .func (.func 150) #[] #[]] rfl rfl 220 _ (blk_new _ _) (by kernel_rfl) rfl (by simp [Value.oneCell']) ?_
                 intro V hgV hbV
                 have hgnV : Chg Non wr V := ((Chg.refl Non wr).alloc _).then_new hgV (fun x e => by omega)
                 have b0 := blk_cell (blk_keep HB.out hgnV (fun e => e)) 0 (v := .slice A1 c.ws.length c1) rfl
                 have b1 := blk_cell (blk_keep HB.out hgnV (fun e => e)) 1 (v := .slice A2 c.ps.length c2) rfl
                 have b2 := blk_cell (blk_keep HB.out hgnV (fun e => e)) 2 (v := .slice A3 c.cs.length c3) rfl
                 have z1 := blk_cell hbV 1 (v := .func (.func 150) #[] #[]) rfl
                 have HbV := Lib.hid hbV
                 have HgV := Lib.hid hgnV
                 clear hgV hbV hgnV)
    refine (H1.out _ (HG.out.then_non HgV.out)).mono ?_
    rintro e v ⟨rfl, hg⟩
    have hv0 := blk_keep HbV.out hg (fun e => e)
    have m0 := blk_cell hv0 0 (v := .int .i64 120) rfl
    have HGv := Lib.hid ((HG.out.then_non HgV.out).then_non hg)
    have hgn := HgV.out.then_non hg
    have HBv := Lib.hid (blk_keep HB.out hgn (fun e => e))
    have HOv := Lib.hid (HO.out.non hgn (fun _ _ h => h))
    clear hg hv0 hgn b0 b1 b2
    cases q1 with
    | false =>
     have HO2 : Hid (OwnL errV w.heap.size 40 1 v u3 (errsTo c 2)) := Lib.hid (by rw [HS.out]; exact HOv.out)
     go_wp2_with fail
     exact ⟨⟨2, by omega, by simp, HO2, HBv, HX, HGv⟩, by simp [intOf]⟩
    | true =>
     go_wp2_with (refine sel (some 18) (.call _) ?_; refine Vm_stop ?_)
     refine HoleV.mk ?_
     refine wpList_snocL errV rfl (.tmp 14) (.tmp 17) 190 rfl w.heap.size 40 (.int .i64 0) 1 8 Tryz.underlying190 info_err rfl (by omega) u3 (errsTo c 1) rfl (HOv.out.non ((Chg.refl Non v).alloc _) (fun _ _ h => h)) v.heap.size 120 #[.int .i64 120] 40 rfl (blk_new _ _) rfl (by simp [Value.oneCell']) (by have := errsTo_len c 1; omega) (by omega) (by have := HGv.out.size; simp; omega) (fun _ _ _ _ h => h) rfl ?_
     intro v2 w2 ho hg hv
     have hne : ¬ (u3.ownBlock = some w.heap.size) := fun e => by have := HX.out _ e; omega
     have HO2 : Hid (OwnL errV w.heap.size 40 1 w2 v2 (errsTo c 2)) := Lib.hid (by rw [HS.out, if_pos (by trivial)]; exact ho)
     have HG2 : Hid (Chg Non w w2) := Lib.hid ((HGv.out.alloc _).then_new hg (fun x e => (HOv.out.ge e).1))
     have HB2 := Lib.hid (blk_keep (blk_keep HBv.out ((Chg.refl Non v).alloc _) (fun e => e)) hg hne)
     have HX2 : Hid (∀ g, v2.ownBlock = some g → w.heap.size < g) := Lib.hid (fun g e => by
       rcases hv g e with h | h
       · exact HX.out g h
       · have := blk_lt HBv.out
         simp at h
         omega)
     clear ho hg hv hne
     go_wp2_with fail
     exact ⟨⟨2, by omega, by simp, HO2, HB2, HX2, HG2⟩, by simp [intOf]⟩
   ·have HS := Lib.hid (fun h => errsTo_succ c (k := 2) (e := 80) (q := q2) h)
    have HS := Lib.hid (HS.out (by rw [HW.out]; rfl))
    clear H0 i0 H1 i1 H3 i3 H4 i4
    go_wp2_with (refine sel none (.store 220 (.tmp 5) (.tmp 9)) ?_
                 refine wpList_store_rowA rfl 220 (.tmp 5) (.tmp 9) rfl wr.heap.size #[.int .i64 80, .func (.func 151) #[] #[]] rfl rfl 220 _ (blk_new _ _) (by kernel_rfl) rfl (by simp [Value.oneCell']) ?_
                 intro V hgV hbV
                 have hgnV : Chg Non wr V := ((Chg.refl Non wr).alloc _).then_new hgV (fun x e => by omega)
                 have b0 := blk_cell (blk_keep HB.out hgnV (fun e => e)) 0 (v := .slice A1 c.ws.length c1) rfl
                 have b1 := blk_cell (blk_keep HB.out hgnV (fun e => e)) 1 (v := .slice A2 c.ps.length c2) rfl
                 have b2 := blk_cell (blk_keep HB.out hgnV (fun e => e)) 2 (v := .slice A3 c.cs.length c3) rfl
                 have z1 := blk_cell hbV 1 (v := .func (.func 151) #[] #[]) rfl
                 have HbV := Lib.hid hbV
                 have HgV := Lib.hid hgnV
                 clear hgV hbV hgnV)
    refine (H2.out _ (HG.out.then_non HgV.out)).mono ?_
    rintro e v ⟨rfl, hg⟩
    have hv0 := blk_keep HbV.out hg (fun e => e)
    have m0 := blk_cell hv0 0 (v := .int .i64 80) rfl
    have HGv := Lib.hid ((HG.out.then_non HgV.out).then_non hg)
    have hgn := HgV.out.then_non hg
    have HBv := Lib.hid (blk_keep HB.out hgn (fun e => e))
    have HOv := Lib.hid (HO.out.non hgn (fun _ _ h => h))
    clear hg hv0 hgn b0 b1 b2
    cases q2 with
    | false =>
     have HO2 : Hid (OwnL errV w.heap.size 40 1 v u3 (errsTo c 3)) := Lib.hid (by rw [HS.out]; exact HOv.out)
     go_wp2_with fail
     exact ⟨⟨3, by omega, by simp, HO2, HBv, HX, HGv⟩, by simp [intOf]⟩
    | true =>
     go_wp2_with (refine sel (some 18) (.call _) ?_; refine Vm_stop ?_)
     refine HoleV.mk ?_
     refine wpList_snocL errV rfl (.tmp 14) (.tmp 17) 190 rfl w.heap.size 40 (.int .i64 0) 1 8 Tryz.underlying190 info_err rfl (by omega) u3 (errsTo c 2) rfl (HOv.out.non ((Chg.refl Non v).alloc _) (fun _ _ h => h)) v.heap.size 80 #[.int .i64 80] 40 rfl (blk_new _ _) rfl (by simp [Value.oneCell']) (by have := errsTo_len c 2; omega) (by omega) (by have := HGv.out.size; simp; omega) (fun _ _ _ _ h => h) rfl ?_
     intro v2 w2 ho hg hv
     have hne : ¬ (u3.ownBlock = some w.heap.size) := fun e => by have := HX.out _ e; omega
     have HO2 : Hid (OwnL errV w.heap.size 40 1 w2 v2 (errsTo c 3)) := Lib.hid (by rw [HS.out, if_pos (by trivial)]; exact ho)
     have HG2 : Hid (Chg Non w w2) := Lib.hid ((HGv.out.alloc _).then_new hg (fun x e => (HOv.out.ge e).1))
     have HB2 := Lib.hid (blk_keep (blk_keep HBv.out ((Chg.refl Non v).alloc _) (fun e => e)) hg hne)
     have HX2 : Hid (∀ g, v2.ownBlock = some g → w.heap.size < g) := Lib.hid (fun g e => by
       rcases hv g e with h | h
       · exact HX.out g h
       · have := blk_lt HBv.out
         simp at h
         omega)
     clear ho hg hv hne
     go_wp2_with fail
     exact ⟨⟨3, by omega, by simp, HO2, HB2, HX2, HG2⟩, by simp [intOf]⟩
   ·have HS := Lib.hid (fun h => errsTo_succ c (k := 3) (e := 121) (q := q3) h)
    have HS := Lib.hid (HS.out (by rw [HW.out]; rfl))
    clear H0 i0 H1 i1 H2 i2 H4 i4
    go_wp2_with (refine sel none (.store 220 (.tmp 5) (.tmp 9)) ?_
                 refine wpList_store_rowA rfl 220 (.tmp 5) (.tmp 9) rfl wr.heap.size #[.int .i64 121, .func (.func 152) #[] #[]] rfl rfl 220 _ (blk_new _ _) (by kernel_rfl) rfl (by simp [Value.oneCell']) ?_
                 intro V hgV hbV
                 have hgnV : Chg Non wr V := ((Chg.refl Non wr).alloc _).then_new hgV (fun x e => by omega)
                 have b0 := blk_cell (blk_keep HB.out hgnV (fun e => e)) 0 (v := .slice A1 c.ws.length c1) rfl
                 have b1 := blk_cell (blk_keep HB.out hgnV (fun e => e)) 1 (v := .slice A2 c.ps.length c2) rfl
                 have b2 := blk_cell (blk_keep HB.out hgnV (fun e => e)) 2 (v := .slice A3 c.cs.length c3) rfl
                 have z1 := blk_cell hbV 1 (v := .func (.func 152) #[] #[]) rfl
                 have HbV := Lib.hid hbV
                 have HgV := Lib.hid hgnV
                 clear hgV hbV hgnV)
    refine (H3.out _ (HG.out.then_non HgV.out)).mono ?_
    rintro e v ⟨rfl, hg⟩
    have hv0 := blk_keep HbV.out hg (fun e => e)
    have m0 := blk_cell hv0 0 (v := .int .i64 121) rfl
    have HGv := Lib.hid ((HG.out.then_non HgV.out).then_non hg)
    have hgn := HgV.out.then_non hg
    have HBv := Lib.hid (blk_keep HB.out hgn (fun e => e))
    have HOv := Lib.hid (HO.out.non hgn (fun _ _ h => h))
    clear hg hv0 hgn b0 b1 b2
    cases q3 with
    | false =>
     have HO2 : Hid (OwnL errV w.heap.size 40 1 v u3 (errsTo c 4)) := Lib.hid (by rw [HS.out]; exact HOv.out)
     go_wp2_with fail
     exact ⟨⟨4, by omega, by simp, HO2, HBv, HX, HGv⟩, by simp [intOf]⟩
    | true =>
     go_wp2_with (refine sel (some 18) (.call _) ?_; refine Vm_stop ?_)
     refine HoleV.mk ?_
     refine wpList_snocL errV rfl (.tmp 14) (.tmp 17) 190 rfl w.heap.size 40 (.int .i64 0) 1 8 Tryz.underlying190 info_err rfl (by omega) u3 (errsTo c 3) rfl (HOv.out.non ((Chg.refl Non v).alloc _) (fun _ _ h => h)) v.heap.size 121 #[.int .i64 121] 40 rfl (blk_new _ _) rfl (by simp [Value.oneCell']) (by have := errsTo_len c 3; omega) (by omega) (by have := HGv.out.size; simp; omega) (fun _ _ _ _ h => h) rfl ?_
     intro v2 w2 ho hg hv
     have hne : ¬ (u3.ownBlock = some w.heap.size) := fun e => by have := HX.out _ e; omega
     have HO2 : Hid (OwnL errV w.heap.size 40 1 w2 v2 (errsTo c 4)) := Lib.hid (by rw [HS.out, if_pos (by trivial)]; exact ho)
     have HG2 : Hid (Chg Non w w2) := Lib.hid ((HGv.out.alloc _).then_new hg (fun x e => (HOv.out.ge e).1))
     have HB2 := Lib.hid (blk_keep (blk_keep HBv.out ((Chg.refl Non v).alloc _) (fun e => e)) hg hne)
     have HX2 : Hid (∀ g, v2.ownBlock = some g → w.heap.size < g) := Lib.hid (fun g e => by
       rcases hv g e with h | h
       · exact HX.out g h
       · have := blk_lt HBv.out
         simp at h
         omega)
     clear ho hg hv hne
     go_wp2_with fail
     exact ⟨⟨4, by omega, by simp, HO2, HB2, HX2, HG2⟩, by simp [intOf]⟩
   ·have HS := Lib.hid (fun h => errsTo_succ c (k := 4) (e := 100) (q := q4) h)
    have HS := Lib.hid (HS.out (by rw [HW.out]; rfl))
    clear H0 i0 H1 i1 H2 i2 H3 i3
    go_wp2_with (refine sel none (.store 220 (.tmp 5) (.tmp 9)) ?_
                 refine wpList_store_rowA rfl 220 (.tmp 5) (.tmp 9) rfl wr.heap.size #[.int .i64 100, .func (.func 153) #[] #[]] rfl rfl 220 _ (blk_new _ _) (by kernel_rfl) rfl (by simp [Value.oneCell']) ?_
                 intro V hgV hbV
                 have hgnV : Chg Non wr V := ((Chg.refl Non wr).alloc _).then_new hgV (fun x e => by omega)
                 have b0 := blk_cell (blk_keep HB.out hgnV (fun e => e)) 0 (v := .slice A1 c.ws.length c1) rfl
                 have b1 := blk_cell (blk_keep HB.out hgnV (fun e => e)) 1 (v := .slice A2 c.ps.length c2) rfl
                 have b2 := blk_cell (blk_keep HB.out hgnV (fun e => e)) 2 (v := .slice A3 c.cs.length c3) rfl
                 have z1 := blk_cell hbV 1 (v := .func (.func 153) #[] #[]) rfl
                 have HbV := Lib.hid hbV
                 have HgV := Lib.hid hgnV
                 clear hgV hbV hgnV)
    refine (H4.out _ (HG.out.then_non HgV.out)).mono ?_
    rintro e v ⟨rfl, hg⟩
    have hv0 := blk_keep HbV.out hg (fun e => e)
    have m0 := blk_cell hv0 0 (v := .int .i64 100) rfl
    have HGv := Lib.hid ((HG.out.then_non HgV.out).then_non hg)
    have hgn := HgV.out.then_non hg
    have HBv := Lib.hid (blk_keep HB.out hgn (fun e => e))
    have HOv := Lib.hid (HO.out.non hgn (fun _ _ h => h))
    clear hg hv0 hgn b0 b1 b2
    cases q4 with
    | false =>
     have HO2 : Hid (OwnL errV w.heap.size 40 1 v u3 (errsTo c 5)) := Lib.hid (by rw [HS.out]; exact HOv.out)
     go_wp2_with fail
     exact ⟨⟨5, by omega, by simp, HO2, HBv, HX, HGv⟩, by simp [intOf]⟩
    | true =>
     go_wp2_with (refine sel (some 18) (.call _) ?_; refine Vm_stop ?_)
     refine HoleV.mk ?_
     refine wpList_snocL errV rfl (.tmp 14) (.tmp 17) 190 rfl w.heap.size 40 (.int .i64 0) 1 8 Tryz.underlying190 info_err rfl (by omega) u3 (errsTo c 4) rfl (HOv.out.non ((Chg.refl Non v).alloc _) (fun _ _ h => h)) v.heap.size 100 #[.int .i64 100] 40 rfl (blk_new _ _) rfl (by simp [Value.oneCell']) (by have := errsTo_len c 4; omega) (by omega) (by have := HGv.out.size; simp; omega) (fun _ _ _ _ h => h) rfl ?_
     intro v2 w2 ho hg hv
     have hne : ¬ (u3.ownBlock = some w.heap.size) := fun e => by have := HX.out _ e; omega
     have HO2 : Hid (OwnL errV w.heap.size 40 1 w2 v2 (errsTo c 5)) := Lib.hid (by rw [HS.out, if_pos (by trivial)]; exact ho)
     have HG2 : Hid (Chg Non w w2) := Lib.hid ((HGv.out.alloc _).then_new hg (fun x e => (HOv.out.ge e).1))
     have HB2 := Lib.hid (blk_keep (blk_keep HBv.out ((Chg.refl Non v).alloc _) (fun e => e)) hg hne)
     have HX2 : Hid (∀ g, v2.ownBlock = some g → w.heap.size < g) := Lib.hid (fun g e => by
       rcases hv g e with h | h
       · exact HX.out g h
       · have := blk_lt HBv.out
         simp at h
         omega)
     clear ho hg hv hne
     go_wp2_with fail
     exact ⟨⟨5, by omega, by simp, HO2, HB2, HX2, HG2⟩, by simp [intOf]⟩
  ·obtain rfl : k = 5 := by omega
   go_wp2_with fail
   go_ret
   exact ⟨_, rfl, HO.out, HG.out⟩
noncomputable def vCheck (c : Cfg) : Int := (errsTo c 5).headD 0
set_option maxRecDepth 100000 in
theorem vCheck_ok (I : Nat → Prop) (w : World) (c : Cfg) (A1 A2 A3 : Option Addr) (c1 c2 c3 : Nat) (h : CfgR I w c A1 A2 A3 c1 c2 c3) (h20 : c.ps.length ≤ 1000) :
  Calls Tryz.prog 64 #[.agg #[.slice A1 c.ws.length c1, .slice A2 c.ps.length c2, .slice A3 c.cs.length c3]] w fun e w' => e = .returned (.int .i64 (vCheck c)) ∧ Chg Non w w' := by
 have HA := Lib.hid (fun W (hg : Chg Non w W) => vAll_ok I W c A1 A2 A3 c1 c2 c3 (h.non hg) h20)
 have HE : Hid (vCheck c = (errsTo c 5).headD 0) := Lib.hid rfl
 clear h
 go_enter Tryz.func64, Tryz.ntmps64
 go_wp2_with fail
 refine (HA.out _ ((Chg.refl Non w).alloc _)).mono ?_
 rintro e u ⟨v, rfl, ho, hg⟩
 obtain ⟨A, cc, rfl, h1, h2, hr⟩ := ho.rd
 have HR := Lib.hid hr
 have HG := Lib.hid (((Chg.refl Non w).alloc _).then_non hg)
 clear ho hr hg h2 HA
 obtain ⟨l, hl⟩ : ∃ l, errsTo c 5 = l := ⟨_, rfl⟩
 rw [hl] at HE HR h1 ⊢
 clear hl
 go_wp2_with fail
 go_loopw [8] (fun iv wr => iv = .int .i64 0 ∧ wr = u) (fun _ _ => 0)
 case atStart => exact ⟨rfl, rfl⟩
 case round =>
  obtain ⟨rfl, rfl⟩ := hrel
  cases l with
  | nil =>
   go_wp2_with fail
   go_ret
   exact ⟨ret_i HE.out.symm, HG.out⟩
  | cons x t =>
   obtain ⟨b, o, vs, rfl, _, hlen, hcell, rfl⟩ := HR.out 0 x rfl
   have k0 : wr.cell? ⟨b, o, none⟩ = some (.int .i64 x) := by have := hcell 0 _ rfl; simpa using this
   clear hcell hlen
   go_wp2_with fail
   go_ret
   exact ⟨ret_i HE.out.symm, HG.out⟩
noncomputable def fitsB (c : Cfg) : Bool := vCheck c == 0
set_option maxRecDepth 100000 in
theorem fits_ok (I : Nat → Prop) (w : World) (c : Cfg) (A1 A2 A3 : Option Addr) (c1 c2 c3 : Nat) (h : CfgR I w c A1 A2 A3 c1 c2 c3) (h20 : c.ps.length ≤ 1000) :
  Calls Tryz.prog 32 #[.agg #[.slice A1 c.ws.length c1, .slice A2 c.ps.length c2, .slice A3 c.cs.length c3]] w fun e w' => e = .returned (.bool (fitsB c)) ∧ Chg Non w w' := by
 have HA := Lib.hid (fun W (hg : Chg Non w W) => vCheck_ok I W c A1 A2 A3 c1 c2 c3 (h.non hg) h20)
 have HE : Hid (fitsB c = (vCheck c == 0)) := Lib.hid rfl
 obtain ⟨e0, he⟩ : ∃ e, vCheck c = e := ⟨_, rfl⟩
 simp only [he] at HA HE
 clear h he
 go_enter Tryz.func32, Tryz.ntmps32
 go_wp2_with fail
 refine (HA.out _ ((Chg.refl Non w).alloc _)).mono ?_
 rintro e u ⟨rfl, hg⟩
 go_wp2_with fail
 go_ret
 exact ⟨ret_b HE.out.symm, ((Chg.refl Non w).alloc _).then_non hg⟩
theorem fits_iff {c : Cfg} : fitsB c = true ↔ windowsBad c = false ∧ partsBad c.ps = false ∧ regionsBad c = false ∧ overlapBad c.ps = false ∧ channelsBad c = false := by
 unfold fitsB vCheck errsTo wrongs
 cases windowsBad c <;> cases partsBad c.ps <;> cases regionsBad c <;> cases overlapBad c.ps <;> cases channelsBad c <;> simp
end
section
open Go.RowKit
theorem wpList_clone0 {P : Program} {α : Type} (R : World → α → List Value → Prop) {ops : Array Oper} {rest : List Oper} {o : Oper} {a : Act} {w : World} {Q : Exit → Act → World → Prop} (hgd : o.guard = none) (s x : Operand) (t : TypeId)
  (ho : o.op = .call { callee := .builtin .append, args := #[s, x], argTypes := #[t, t] }) (e : TypeId) (z : Value) (sz bytes : Nat) (ht : P.underlying t = some (.slice e)) (hi : (P.info? e).map (fun i => (i.zero, i.size, i.bytes)) = some (some z, sz, bytes))
  (hzs : z.cells.size = sz) (hsz : 0 < sz) (B g0 : Nat) (hs : a.eval s = .slice (some ⟨g0, 0, none⟩) 0 0) (hg0 : w.heap[g0]? = some (.cells #[] e (0, 0))) (hB : B ≤ g0) (ad : Addr) (c : Nat) (hx : a.eval x = .slice (some ad) 0 c)
  (h : ∀ v2 w2, OwnL R B e sz w2 v2 ([] : List α) → Chg (fun k => k = g0) w w2 → (∀ g, v2.ownBlock = some g → g = g0 ∨ g = w.heap.size) → wpList P ops Q rest (a.put o.dst v2) w2) : wpList P ops Q (o :: rest) a w := by
 obtain ⟨i0, hi0, hz0, hs0, hb0⟩ := info_parts hi
 have hown : w.ownsRow B e sz (.slice (some ⟨g0, 0, none⟩) 0 0) 0 [] := ⟨by simp, .inr ⟨g0, 0, #[], rfl, hB, hg0, Nat.le_refl _, by simp, by simp, by simp⟩⟩
 obtain ⟨v', w', h1, h2, h3, _, h5⟩ := run_append_own_at (P := P) w B t o.type e i0 z sz bytes ht hi0 hz0 hs0 hb0 hzs hsz _ 0 [] hown ad 0 c [] (by simp) (by simp) (by simp) (by unfold maxLen; omega) (by omega) (by have := blk_lt hg0; omega)
 refine wpList_plain hgd fun K hK => ?_
 unfold Oper.wp execOp
 simp only [ho, resolve, invoke, builtin, Sem.run_bind, Sem.run_pure, Result.andThen_ok, List.map_toArray, List.map_cons, List.map_nil, hs, hx, h1]
 refine hK _ _ (h v' w' ⟨[], by simpa using h2, rfl, (fun x h => by cases h), (fun i a x h => by simp at h)⟩ ((Chg.refl (fun k => k = g0) w).grown h3 fun g' hg' => .inl (by simpa [Value.ownBlock, eq_comm] using hg')) (fun g e => ?_))
 rcases h5 with h5 | h5
 ·rw [h5] at e
  exact .inl (by simpa [Value.ownBlock, eq_comm] using e)
 ·rw [h5] at e
  exact .inr (by simpa [eq_comm] using e)
def CloneP {α : Type} (R : World → α → List Value → Prop) (e : TypeId) (sz : Nat) (l : List α) (w : World) (en : Ending) (w' : World) : Prop := ∃ v, en = .returned v ∧ OwnL R w.heap.size e sz w' v l ∧ Chg Non w w'
theorem info_clWin : (Tryz.prog.info? 49).map (fun i => (i.zero, i.size, i.bytes)) = some (some (.agg #[.int .i64 0, .int .i64 0]), 2, 16) := by kernel_rfl
theorem eqlnil_Win (B : Option Addr) (n c : Nat) (W : World) : (binOp .eql 22 (.slice B n c) (.slice none 0 0)).run Tryz.prog W = .ok (.bool B.isNone) W := by
 simp only [binOp]
 simp [run_equal_slice_nil W _ _ B n c Tryz.underlying22]
set_option maxRecDepth 100000 in
theorem cloneWin {α : Type} (R : World → α → List Value → Prop) (I : Nat → Prop) (hm : ∀ S W W' a vs, Chg S W W' → (∀ b, b < W.heap.size → I b → ¬ S b) → R W a vs → R W' a vs) (hone : ∀ W a vs, R W a vs → ∀ u ∈ vs, u.oneCell' = true) (A : Option Addr) (l : List α) (c : Nat) (w : World)
  (hI : ∀ b, I b → b < w.heap.size) (hr : RdL R I 2 w A l) (hl : l.length ≤ 1000000) :
  Calls Tryz.prog 79 #[.slice A l.length c] w (CloneP R 49 2 l w) := by
 have HR := Lib.hid hr
 have hnil : ∀ (B : Option Addr) (n c : Nat) (W : World), (binOp .eql 22 (.slice B n c) (.slice none 0 0)).run Tryz.prog W = .ok (.bool B.isNone) W := fun B n c W => eqlnil_Win B n c W
 cases A with
 | none =>
  have hl0 : l = [] := by
   cases l with
   | nil => rfl
   | cons x r => obtain ⟨b, o, vs, e, _⟩ := hr 0 x rfl; cases e
  subst hl0
  clear hr
  go_enter Tryz.func79, Tryz.ntmps79
  go_wp2_with fail
  go_ret
  exact ⟨_, rfl, OwnL.nil _ _ _ _ _, Chg.refl _ _⟩
 | some ad =>
  clear hr
  go_enter Tryz.func79, Tryz.ntmps79
  go_wp2_with (refine sel (some 7) (.call _) ?_; refine Vm_stop ?_)
  refine HoleV.mk ?_
  by_cases hl0 : l = []
  ·subst hl0
   refine wpList_clone0 R rfl (.tmp 5) (.tmp 6) 22 rfl 49 (.agg #[.int .i64 0, .int .i64 0]) 2 16 Tryz.underlying22 info_clWin rfl (by omega) w.heap.size w.heap.size rfl (blk_new _ _) (Nat.le_refl _) ad c rfl ?_
   intro v2 w2 ho hg hv
   have HO := Lib.hid ho
   have HG := Lib.hid (((Chg.refl Non w).alloc _).then_new hg (fun x hx => by omega))
   clear ho hg hv
   go_wp2_with fail
   go_ret
   exact ⟨_, rfl, HO.out, HG.out⟩
  ·obtain ⟨b, o2, e, hIb, _⟩ := HR.out.at_ (List.length_pos_iff.2 hl0)
   injection e with e
   subst e
   refine wpList_cloneL R rfl (.tmp 5) (.tmp 6) 22 rfl 49 (.agg #[.int .i64 0, .int .i64 0]) 2 16 Tryz.underlying22 info_clWin rfl (by omega) w.heap.size w.heap.size rfl (blk_new _ _) (Nat.le_refl _) I b o2 l c rfl hl0 (HR.out.non ((Chg.refl Non _).alloc _) (fun a vs h => hm _ _ _ _ _ ((Chg.refl Non _).alloc _) (fun _ _ _ e => e) h)) (hone _) hl (by omega) ?_ ?_
   ·intro w' a vs hg h
    exact hm _ _ _ _ _ hg (fun b _ hb e => by have := hI b hb; omega) h
   intro v2 w2 ho hg hv
   have HO := Lib.hid ho
   have HG := Lib.hid (((Chg.refl Non w).alloc _).then_new hg (fun x hx => by omega))
   clear ho hg hv
   go_wp2_with fail
   go_ret
   exact ⟨_, rfl, HO.out, HG.out⟩
theorem info_clCh : (Tryz.prog.info? 93).map (fun i => (i.zero, i.size, i.bytes)) = some (some (.agg #[.int .i64 0, .int .i64 0, .int .i64 0, .int .i64 0, .int .i64 0]), 5, 40) := by kernel_rfl
theorem eqlnil_Ch (B : Option Addr) (n c : Nat) (W : World) : (binOp .eql 24 (.slice B n c) (.slice none 0 0)).run Tryz.prog W = .ok (.bool B.isNone) W := by
 simp only [binOp]
 simp [run_equal_slice_nil W _ _ B n c Tryz.underlying24]
set_option maxRecDepth 100000 in
theorem cloneCh {α : Type} (R : World → α → List Value → Prop) (I : Nat → Prop) (hm : ∀ S W W' a vs, Chg S W W' → (∀ b, b < W.heap.size → I b → ¬ S b) → R W a vs → R W' a vs) (hone : ∀ W a vs, R W a vs → ∀ u ∈ vs, u.oneCell' = true) (A : Option Addr) (l : List α) (c : Nat) (w : World)
  (hI : ∀ b, I b → b < w.heap.size) (hr : RdL R I 5 w A l) (hl : l.length ≤ 1000000) :
  Calls Tryz.prog 80 #[.slice A l.length c] w (CloneP R 93 5 l w) := by
 have HR := Lib.hid hr
 have hnil : ∀ (B : Option Addr) (n c : Nat) (W : World), (binOp .eql 24 (.slice B n c) (.slice none 0 0)).run Tryz.prog W = .ok (.bool B.isNone) W := fun B n c W => eqlnil_Ch B n c W
 cases A with
 | none =>
  have hl0 : l = [] := by
   cases l with
   | nil => rfl
   | cons x r => obtain ⟨b, o, vs, e, _⟩ := hr 0 x rfl; cases e
  subst hl0
  clear hr
  go_enter Tryz.func80, Tryz.ntmps80
  go_wp2_with fail
  go_ret
  exact ⟨_, rfl, OwnL.nil _ _ _ _ _, Chg.refl _ _⟩
 | some ad =>
  clear hr
  go_enter Tryz.func80, Tryz.ntmps80
  go_wp2_with (refine sel (some 7) (.call _) ?_; refine Vm_stop ?_)
  refine HoleV.mk ?_
  by_cases hl0 : l = []
  ·subst hl0
   refine wpList_clone0 R rfl (.tmp 5) (.tmp 6) 24 rfl 93 (.agg #[.int .i64 0, .int .i64 0, .int .i64 0, .int .i64 0, .int .i64 0]) 5 40 Tryz.underlying24 info_clCh rfl (by omega) w.heap.size w.heap.size rfl (blk_new _ _) (Nat.le_refl _) ad c rfl ?_
   intro v2 w2 ho hg hv
   have HO := Lib.hid ho
   have HG := Lib.hid (((Chg.refl Non w).alloc _).then_new hg (fun x hx => by omega))
   clear ho hg hv
   go_wp2_with fail
   go_ret
   exact ⟨_, rfl, HO.out, HG.out⟩
  ·obtain ⟨b, o2, e, hIb, _⟩ := HR.out.at_ (List.length_pos_iff.2 hl0)
   injection e with e
   subst e
   refine wpList_cloneL R rfl (.tmp 5) (.tmp 6) 24 rfl 93 (.agg #[.int .i64 0, .int .i64 0, .int .i64 0, .int .i64 0, .int .i64 0]) 5 40 Tryz.underlying24 info_clCh rfl (by omega) w.heap.size w.heap.size rfl (blk_new _ _) (Nat.le_refl _) I b o2 l c rfl hl0 (HR.out.non ((Chg.refl Non _).alloc _) (fun a vs h => hm _ _ _ _ _ ((Chg.refl Non _).alloc _) (fun _ _ _ e => e) h)) (hone _) hl (by omega) ?_ ?_
   ·intro w' a vs hg h
    exact hm _ _ _ _ _ hg (fun b _ hb e => by have := hI b hb; omega) h
   intro v2 w2 ho hg hv
   have HO := Lib.hid ho
   have HG := Lib.hid (((Chg.refl Non w).alloc _).then_new hg (fun x hx => by omega))
   clear ho hg hv
   go_wp2_with fail
   go_ret
   exact ⟨_, rfl, HO.out, HG.out⟩
theorem info_clPn : (Tryz.prog.info? 83).map (fun i => (i.zero, i.size, i.bytes)) = some (some (.agg #[.int .i64 0, .int .i64 0, .int .i64 0, .bool false, .slice none 0 0]), 5, 56) := by kernel_rfl
theorem eqlnil_Pn (B : Option Addr) (n c : Nat) (W : World) : (binOp .eql 23 (.slice B n c) (.slice none 0 0)).run Tryz.prog W = .ok (.bool B.isNone) W := by
 simp only [binOp]
 simp [run_equal_slice_nil W _ _ B n c Tryz.underlying23]
set_option maxRecDepth 100000 in
theorem clonePn {α : Type} (R : World → α → List Value → Prop) (I : Nat → Prop) (hm : ∀ S W W' a vs, Chg S W W' → (∀ b, b < W.heap.size → I b → ¬ S b) → R W a vs → R W' a vs) (hone : ∀ W a vs, R W a vs → ∀ u ∈ vs, u.oneCell' = true) (A : Option Addr) (l : List α) (c : Nat) (w : World)
  (hI : ∀ b, I b → b < w.heap.size) (hr : RdL R I 5 w A l) (hl : l.length ≤ 1000000) :
  Calls Tryz.prog 81 #[.slice A l.length c] w (CloneP R 83 5 l w) := by
 have HR := Lib.hid hr
 have hnil : ∀ (B : Option Addr) (n c : Nat) (W : World), (binOp .eql 23 (.slice B n c) (.slice none 0 0)).run Tryz.prog W = .ok (.bool B.isNone) W := fun B n c W => eqlnil_Pn B n c W
 cases A with
 | none =>
  have hl0 : l = [] := by
   cases l with
   | nil => rfl
   | cons x r => obtain ⟨b, o, vs, e, _⟩ := hr 0 x rfl; cases e
  subst hl0
  clear hr
  go_enter Tryz.func81, Tryz.ntmps81
  go_wp2_with fail
  go_ret
  exact ⟨_, rfl, OwnL.nil _ _ _ _ _, Chg.refl _ _⟩
 | some ad =>
  clear hr
  go_enter Tryz.func81, Tryz.ntmps81
  go_wp2_with (refine sel (some 7) (.call _) ?_; refine Vm_stop ?_)
  refine HoleV.mk ?_
  by_cases hl0 : l = []
  ·subst hl0
   refine wpList_clone0 R rfl (.tmp 5) (.tmp 6) 23 rfl 83 (.agg #[.int .i64 0, .int .i64 0, .int .i64 0, .bool false, .slice none 0 0]) 5 56 Tryz.underlying23 info_clPn rfl (by omega) w.heap.size w.heap.size rfl (blk_new _ _) (Nat.le_refl _) ad c rfl ?_
   intro v2 w2 ho hg hv
   have HO := Lib.hid ho
   have HG := Lib.hid (((Chg.refl Non w).alloc _).then_new hg (fun x hx => by omega))
   clear ho hg hv
   go_wp2_with fail
   go_ret
   exact ⟨_, rfl, HO.out, HG.out⟩
  ·obtain ⟨b, o2, e, hIb, _⟩ := HR.out.at_ (List.length_pos_iff.2 hl0)
   injection e with e
   subst e
   refine wpList_cloneL R rfl (.tmp 5) (.tmp 6) 23 rfl 83 (.agg #[.int .i64 0, .int .i64 0, .int .i64 0, .bool false, .slice none 0 0]) 5 56 Tryz.underlying23 info_clPn rfl (by omega) w.heap.size w.heap.size rfl (blk_new _ _) (Nat.le_refl _) I b o2 l c rfl hl0 (HR.out.non ((Chg.refl Non _).alloc _) (fun a vs h => hm _ _ _ _ _ ((Chg.refl Non _).alloc _) (fun _ _ _ e => e) h)) (hone _) hl (by omega) ?_ ?_
   ·intro w' a vs hg h
    exact hm _ _ _ _ _ hg (fun b _ hb e => by have := hI b hb; omega) h
   intro v2 w2 ho hg hv
   have HO := Lib.hid ho
   have HG := Lib.hid (((Chg.refl Non w).alloc _).then_new hg (fun x hx => by omega))
   clear ho hg hv
   go_wp2_with fail
   go_ret
   exact ⟨_, rfl, HO.out, HG.out⟩
theorem info_clPt : (Tryz.prog.info? 69).map (fun i => (i.zero, i.size, i.bytes)) = some (some (.agg #[.int .i64 0, .int .i64 0, .bool false, .int .u32 0, .int .u32 0, .int .u32 0, .int .u32 0, .int .u32 0, .int .u32 0, .int .u32 0, .int .u32 0, .int .u32 0, .int .u8 0, .slice none 0 0]), 14, 88) := by kernel_rfl
theorem eqlnil_Pt (B : Option Addr) (n c : Nat) (W : World) : (binOp .eql 27 (.slice B n c) (.slice none 0 0)).run Tryz.prog W = .ok (.bool B.isNone) W := by
 simp only [binOp]
 simp [run_equal_slice_nil W _ _ B n c Tryz.underlying27]
set_option maxRecDepth 100000 in
theorem clonePt {α : Type} (R : World → α → List Value → Prop) (I : Nat → Prop) (hm : ∀ S W W' a vs, Chg S W W' → (∀ b, b < W.heap.size → I b → ¬ S b) → R W a vs → R W' a vs) (hone : ∀ W a vs, R W a vs → ∀ u ∈ vs, u.oneCell' = true) (A : Option Addr) (l : List α) (c : Nat) (w : World)
  (hI : ∀ b, I b → b < w.heap.size) (hr : RdL R I 14 w A l) (hl : l.length ≤ 1000000) :
  Calls Tryz.prog 83 #[.slice A l.length c] w (CloneP R 69 14 l w) := by
 have HR := Lib.hid hr
 have hnil : ∀ (B : Option Addr) (n c : Nat) (W : World), (binOp .eql 27 (.slice B n c) (.slice none 0 0)).run Tryz.prog W = .ok (.bool B.isNone) W := fun B n c W => eqlnil_Pt B n c W
 cases A with
 | none =>
  have hl0 : l = [] := by
   cases l with
   | nil => rfl
   | cons x r => obtain ⟨b, o, vs, e, _⟩ := hr 0 x rfl; cases e
  subst hl0
  clear hr
  go_enter Tryz.func83, Tryz.ntmps83
  go_wp2_with fail
  go_ret
  exact ⟨_, rfl, OwnL.nil _ _ _ _ _, Chg.refl _ _⟩
 | some ad =>
  clear hr
  go_enter Tryz.func83, Tryz.ntmps83
  go_wp2_with (refine sel (some 7) (.call _) ?_; refine Vm_stop ?_)
  refine HoleV.mk ?_
  by_cases hl0 : l = []
  ·subst hl0
   refine wpList_clone0 R rfl (.tmp 5) (.tmp 6) 27 rfl 69 (.agg #[.int .i64 0, .int .i64 0, .bool false, .int .u32 0, .int .u32 0, .int .u32 0, .int .u32 0, .int .u32 0, .int .u32 0, .int .u32 0, .int .u32 0, .int .u32 0, .int .u8 0, .slice none 0 0]) 14 88 Tryz.underlying27 info_clPt rfl (by omega) w.heap.size w.heap.size rfl (blk_new _ _) (Nat.le_refl _) ad c rfl ?_
   intro v2 w2 ho hg hv
   have HO := Lib.hid ho
   have HG := Lib.hid (((Chg.refl Non w).alloc _).then_new hg (fun x hx => by omega))
   clear ho hg hv
   go_wp2_with fail
   go_ret
   exact ⟨_, rfl, HO.out, HG.out⟩
  ·obtain ⟨b, o2, e, hIb, _⟩ := HR.out.at_ (List.length_pos_iff.2 hl0)
   injection e with e
   subst e
   refine wpList_cloneL R rfl (.tmp 5) (.tmp 6) 27 rfl 69 (.agg #[.int .i64 0, .int .i64 0, .bool false, .int .u32 0, .int .u32 0, .int .u32 0, .int .u32 0, .int .u32 0, .int .u32 0, .int .u32 0, .int .u32 0, .int .u32 0, .int .u8 0, .slice none 0 0]) 14 88 Tryz.underlying27 info_clPt rfl (by omega) w.heap.size w.heap.size rfl (blk_new _ _) (Nat.le_refl _) I b o2 l c rfl hl0 (HR.out.non ((Chg.refl Non _).alloc _) (fun a vs h => hm _ _ _ _ _ ((Chg.refl Non _).alloc _) (fun _ _ _ e => e) h)) (hone _) hl (by omega) ?_ ?_
   ·intro w' a vs hg h
    exact hm _ _ _ _ _ hg (fun b _ hb e => by have := hI b hb; omega) h
   intro v2 w2 ho hg hv
   have HO := Lib.hid ho
   have HG := Lib.hid (((Chg.refl Non w).alloc _).then_new hg (fun x hx => by omega))
   clear ho hg hv
   go_wp2_with fail
   go_ret
   exact ⟨_, rfl, HO.out, HG.out⟩
theorem info_clQu : (Tryz.prog.info? 95).map (fun i => (i.zero, i.size, i.bytes)) = some (some (.agg #[.int .i64 0, .int .i64 0, .int .i64 0, .int .i64 0, .int .i64 0, .slice none 0 0]), 6, 64) := by kernel_rfl
theorem eqlnil_Qu (B : Option Addr) (n c : Nat) (W : World) : (binOp .eql 28 (.slice B n c) (.slice none 0 0)).run Tryz.prog W = .ok (.bool B.isNone) W := by
 simp only [binOp]
 simp [run_equal_slice_nil W _ _ B n c Tryz.underlying28]
set_option maxRecDepth 100000 in
theorem cloneQu {α : Type} (R : World → α → List Value → Prop) (I : Nat → Prop) (hm : ∀ S W W' a vs, Chg S W W' → (∀ b, b < W.heap.size → I b → ¬ S b) → R W a vs → R W' a vs) (hone : ∀ W a vs, R W a vs → ∀ u ∈ vs, u.oneCell' = true) (A : Option Addr) (l : List α) (c : Nat) (w : World)
  (hI : ∀ b, I b → b < w.heap.size) (hr : RdL R I 6 w A l) (hl : l.length ≤ 1000000) :
  Calls Tryz.prog 85 #[.slice A l.length c] w (CloneP R 95 6 l w) := by
 have HR := Lib.hid hr
 have hnil : ∀ (B : Option Addr) (n c : Nat) (W : World), (binOp .eql 28 (.slice B n c) (.slice none 0 0)).run Tryz.prog W = .ok (.bool B.isNone) W := fun B n c W => eqlnil_Qu B n c W
 cases A with
 | none =>
  have hl0 : l = [] := by
   cases l with
   | nil => rfl
   | cons x r => obtain ⟨b, o, vs, e, _⟩ := hr 0 x rfl; cases e
  subst hl0
  clear hr
  go_enter Tryz.func85, Tryz.ntmps85
  go_wp2_with fail
  go_ret
  exact ⟨_, rfl, OwnL.nil _ _ _ _ _, Chg.refl _ _⟩
 | some ad =>
  clear hr
  go_enter Tryz.func85, Tryz.ntmps85
  go_wp2_with (refine sel (some 7) (.call _) ?_; refine Vm_stop ?_)
  refine HoleV.mk ?_
  by_cases hl0 : l = []
  ·subst hl0
   refine wpList_clone0 R rfl (.tmp 5) (.tmp 6) 28 rfl 95 (.agg #[.int .i64 0, .int .i64 0, .int .i64 0, .int .i64 0, .int .i64 0, .slice none 0 0]) 6 64 Tryz.underlying28 info_clQu rfl (by omega) w.heap.size w.heap.size rfl (blk_new _ _) (Nat.le_refl _) ad c rfl ?_
   intro v2 w2 ho hg hv
   have HO := Lib.hid ho
   have HG := Lib.hid (((Chg.refl Non w).alloc _).then_new hg (fun x hx => by omega))
   clear ho hg hv
   go_wp2_with fail
   go_ret
   exact ⟨_, rfl, HO.out, HG.out⟩
  ·obtain ⟨b, o2, e, hIb, _⟩ := HR.out.at_ (List.length_pos_iff.2 hl0)
   injection e with e
   subst e
   refine wpList_cloneL R rfl (.tmp 5) (.tmp 6) 28 rfl 95 (.agg #[.int .i64 0, .int .i64 0, .int .i64 0, .int .i64 0, .int .i64 0, .slice none 0 0]) 6 64 Tryz.underlying28 info_clQu rfl (by omega) w.heap.size w.heap.size rfl (blk_new _ _) (Nat.le_refl _) I b o2 l c rfl hl0 (HR.out.non ((Chg.refl Non _).alloc _) (fun a vs h => hm _ _ _ _ _ ((Chg.refl Non _).alloc _) (fun _ _ _ e => e) h)) (hone _) hl (by omega) ?_ ?_
   ·intro w' a vs hg h
    exact hm _ _ _ _ _ hg (fun b _ hb e => by have := hI b hb; omega) h
   intro v2 w2 ho hg hv
   have HO := Lib.hid ho
   have HG := Lib.hid (((Chg.refl Non w).alloc _).then_new hg (fun x hx => by omega))
   clear ho hg hv
   go_wp2_with fail
   go_ret
   exact ⟨_, rfl, HO.out, HG.out⟩
theorem info_clBy : (Tryz.prog.info? 50).map (fun i => (i.zero, i.size, i.bytes)) = some (some (.slice none 0 0), 1, 24) := by kernel_rfl
theorem eqlnil_By (B : Option Addr) (n c : Nat) (W : World) : (binOp .eql 79 (.slice B n c) (.slice none 0 0)).run Tryz.prog W = .ok (.bool B.isNone) W := by
 simp only [binOp]
 simp [run_equal_slice_nil W _ _ B n c Tryz.underlying79]
set_option maxRecDepth 100000 in
theorem cloneBy {α : Type} (R : World → α → List Value → Prop) (I : Nat → Prop) (hm : ∀ S W W' a vs, Chg S W W' → (∀ b, b < W.heap.size → I b → ¬ S b) → R W a vs → R W' a vs) (hone : ∀ W a vs, R W a vs → ∀ u ∈ vs, u.oneCell' = true) (A : Option Addr) (l : List α) (c : Nat) (w : World)
  (hI : ∀ b, I b → b < w.heap.size) (hr : RdL R I 1 w A l) (hl : l.length ≤ 1000000) :
  Calls Tryz.prog 86 #[.slice A l.length c] w (CloneP R 50 1 l w) := by
 have HR := Lib.hid hr
 have hnil : ∀ (B : Option Addr) (n c : Nat) (W : World), (binOp .eql 79 (.slice B n c) (.slice none 0 0)).run Tryz.prog W = .ok (.bool B.isNone) W := fun B n c W => eqlnil_By B n c W
 cases A with
 | none =>
  have hl0 : l = [] := by
   cases l with
   | nil => rfl
   | cons x r => obtain ⟨b, o, vs, e, _⟩ := hr 0 x rfl; cases e
  subst hl0
  clear hr
  go_enter Tryz.func86, Tryz.ntmps86
  go_wp2_with fail
  go_ret
  exact ⟨_, rfl, OwnL.nil _ _ _ _ _, Chg.refl _ _⟩
 | some ad =>
  clear hr
  go_enter Tryz.func86, Tryz.ntmps86
  go_wp2_with (refine sel (some 7) (.call _) ?_; refine Vm_stop ?_)
  refine HoleV.mk ?_
  by_cases hl0 : l = []
  ·subst hl0
   refine wpList_clone0 R rfl (.tmp 5) (.tmp 6) 79 rfl 50 (.slice none 0 0) 1 24 Tryz.underlying79 info_clBy rfl (by omega) w.heap.size w.heap.size rfl (blk_new _ _) (Nat.le_refl _) ad c rfl ?_
   intro v2 w2 ho hg hv
   have HO := Lib.hid ho
   have HG := Lib.hid (((Chg.refl Non w).alloc _).then_new hg (fun x hx => by omega))
   clear ho hg hv
   go_wp2_with fail
   go_ret
   exact ⟨_, rfl, HO.out, HG.out⟩
  ·obtain ⟨b, o2, e, hIb, _⟩ := HR.out.at_ (List.length_pos_iff.2 hl0)
   injection e with e
   subst e
   refine wpList_cloneL R rfl (.tmp 5) (.tmp 6) 79 rfl 50 (.slice none 0 0) 1 24 Tryz.underlying79 info_clBy rfl (by omega) w.heap.size w.heap.size rfl (blk_new _ _) (Nat.le_refl _) I b o2 l c rfl hl0 (HR.out.non ((Chg.refl Non _).alloc _) (fun a vs h => hm _ _ _ _ _ ((Chg.refl Non _).alloc _) (fun _ _ _ e => e) h)) (hone _) hl (by omega) ?_ ?_
   ·intro w' a vs hg h
    exact hm _ _ _ _ _ hg (fun b _ hb e => by have := hI b hb; omega) h
   intro v2 w2 ho hg hv
   have HO := Lib.hid ho
   have HG := Lib.hid (((Chg.refl Non w).alloc _).then_new hg (fun x hx => by omega))
   clear ho hg hv
   go_wp2_with fail
   go_ret
   exact ⟨_, rfl, HO.out, HG.out⟩
end
section
open Go.RowKit
def fillL (n : Nat) (l : List UInt8) : List UInt8 := l ++ List.replicate (n - l.length) 0
theorem fillL_len {n : Nat} {l : List UInt8} (h : l.length ≤ n) : (fillL n l).length = n := by simp [fillL]; omega
theorem splice_fill (n : Nat) (l : List UInt8) (h : l.length ≤ n) : splice (List.replicate n (Value.int .u8 0)) 0 (l.map bv) = (fillL n l).map bv := by
 simp [splice, fillL, bv]
set_option maxRecDepth 100000 in
theorem fill_ok (I : Nat → Prop) (n : Nat) (l : List UInt8) (v : Value) (w : World) (hb : BytesV I w l v) (hn : n ≤ 512) (hl : l.length ≤ n) :
  Calls Tryz.prog 112 #[.int .i64 n, v] w fun e w' => ∃ m, e = .returned (.tuple #[m, .int .i64 0]) ∧ BytesV (From w.heap.size) w' (fillL n l) m ∧ Chg Non w w' := by
 obtain ⟨A, c, rfl, hc, hm, hr, _⟩ := hb
 have hmk : ∀ W : World, (Instr.makeSlice 50 (.int .i64 (n : Int)) (.int .i64 (n : Int))).run Tryz.prog W = .ok (.slice (some ⟨W.heap.size, 0, none⟩) n n) (W.alloc (.cells (Array.replicate n (.int .u8 0)) 5)) := fun W => by
  have := mk_bytes (n : Int) (by omega) (by omega) W
  simpa using this
 have HR := Lib.hid hr
 have HS := Lib.hid (splice_fill n l hl)
 have HF := Lib.hid (fillL_len hl)
 obtain ⟨X, hX⟩ : ∃ X, X = l.map bv := ⟨_, rfl⟩
 have HX := Lib.hid hX
 obtain ⟨Z, hZ⟩ : ∃ Z, Z = List.replicate n (Value.int .u8 0) := ⟨_, rfl⟩
 have HZ := Lib.hid hZ
 have hZa : Array.replicate n (Value.int .u8 0) = Z.toArray := by rw [hZ]; simp
 rw [hZa] at hmk
 clear hX hZ hZa hr
 go_enter Tryz.func112, Tryz.ntmps112
 go_wp2_with (refine sel (some 23) (.call _) ?_; refine Vm_stop ?_)
 refine HoleV.mk ?_
 refine wpList_copy_splice rfl (.tmp 21) (.tmp 22) 50 50 rfl 5 Tryz.underlying50 (by kernel_rfl) (some ⟨w.heap.size, 0, none⟩) A n n l.length c rfl rfl w.heap.size 0 Z 5 (blk_new _ _) X ?_ ?_ ?_ ?_ w.heap.size w ?_ (Nat.le_refl _) ?_
 ·have := HX.out; subst this; rw [List.length_map, Nat.min_eq_min]; omega
 ·intro h0
  refine ⟨rfl, ?_⟩
  have hx := HX.out
  have h0 : 0 < l.length := by rw [hx, List.length_map] at h0; exact h0
  obtain ⟨b, o, rfl, hlt, hat⟩ := HR.out.at_ h0
  refine ⟨_, rfl, fun j u hu => ?_⟩
  rw [hx, List.getElem?_map] at hu
  obtain ⟨y, hy, rfl⟩ := Option.map_eq_some_iff.1 hu
  rw [addr_none]
  obtain ⟨b', o', e', hy'⟩ := HR.out j y hy
  injection e' with e'
  injection e' with e1 e2 _
  subst e1 e2
  exact ((Chg.refl Non w).alloc _).cell_some hy' (fun e => e)
 ·have h1 := HX.out; have h2 := HZ.out; subst h1 h2; simp; exact hl
 ·intro u hu
  rw [HX.out] at hu
  obtain ⟨y, _, rfl⟩ := List.mem_map.1 hu
  rfl
 ·exact ((Chg.refl Non w).alloc _).below_non
 intro w2 hb2 hg2
 have HG := Lib.hid (Chg.of_below hg2 (Nat.le_refl _) : Chg Non w w2)
 have hlt := blk_lt hb2.out
 have HO : Hid (BytesV (From w.heap.size) w2 (fillL n l) (.slice (some ⟨w.heap.size, 0, none⟩) n n)) := by
  have h := hb2.out
  rw [HZ.out, HX.out, HS.out] at h
  refine Lib.hid ⟨_, n, by rw [HF.out], by rw [HF.out]; exact Nat.le_refl _, by unfold maxLen; omega, fun i x hx => ?_, fun b o e _ => ?_⟩
  ·refine ⟨w.heap.size, 0, rfl, ?_⟩
   rw [cell_of_row _ _ _ _ _ _ h, Nat.zero_add]
   simp [hx, bv]
  ·injection e with e
   injection e with e _ _
   exact Nat.le_of_eq e
 clear hb2 hg2
 go_wp2_with fail
 go_ret2
 exact ⟨_, rfl, HO.out, HG.out⟩
end
end Go.Proofs.YtmnaleaghfbclaaGreatDoor
