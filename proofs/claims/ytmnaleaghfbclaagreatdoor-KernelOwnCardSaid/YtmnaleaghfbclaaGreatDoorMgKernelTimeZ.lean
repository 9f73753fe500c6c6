/- KernelTime, part 26 of 28: contracts of the functions that it reaches, and the laws that they need, merged and shortened (from my texts XKerH, XKerX, XKerW). -/
import Derived.Test.YtmnaleaghfbclaaGreatDoorMgKernelTimeA
import Derived.Test.YtmnaleaghfbclaaGreatDoorMgKernelTimeD
import Derived.Test.YtmnaleaghfbclaaGreatDoorMgKernelTimeO
import Derived.Test.YtmnaleaghfbclaaGreatDoorMgKernelTimeS
import Derived.Test.YtmnaleaghfbclaaGreatDoorMgKernelTimeT
import Derived.Test.YtmnaleaghfbclaaGreatDoorMgKernelTimeU
import Derived.Test.YtmnaleaghfbclaaGreatDoorMgKernelTimeY
namespace Go.Proofs.YtmnaleaghfbclaaGreatDoor
set_option linter.unusedVariables false
set_option linter.unusedSimpArgs false
set_option maxHeartbeats 8000000
section
open Go.RowKit
set_option maxRecDepth 100000 in
theorem whose_ok (N : Nat → Prop) (w : World) (k : Kn) (a : KAt) (x1 x2 x3 part : Int) (h : KerB N w k a) :
  Calls Tryz.prog 54 #[.pointer (some ⟨a.p, 0, none⟩), .agg #[.int .i64 x1, .int .i64 part, .int .i64 x2, .int .i64 x3]] w fun e w' => e = .returned (if idxOf (idP part) k.s.parts < 0 then .iface 171 (.agg #[]) else .iface 169 (.int .i64 (idxOf (idP part) k.s.parts))) ∧ Chg Non w w' := by
 have HA := Lib.hid (fun W (hg : Chg Non w W) => kAt_ok N W k a part (h.non hg))
 obtain ⟨j, hj⟩ : ∃ j, idxOf (idP part) k.s.parts = j := ⟨_, rfl⟩
 simp only [hj] at HA ⊢
 clear h hj
 go_enter Tryz.func54, Tryz.ntmps54
 go_wp2_with fail
 refine (HA.out _ ((Chg.refl Non w).alloc _)).mono ?_
 rintro e u ⟨rfl, hg⟩
 have HG := Lib.hid (((Chg.refl Non w).alloc _).then_non hg)
 clear hg
 by_cases hj0 : j < 0
 ·have d : decide (j ≥ 0) = false := by simp; omega
  go_wp2_with fail
  go_ret
  exact ⟨rfl, HG.out⟩
 ·have d : decide (j ≥ 0) = true := by simp; omega
  go_wp2_with fail
  go_ret
  exact ⟨rfl, HG.out⟩
set_option maxRecDepth 100000 in
theorem nobody_ok (w : World) (v : Value) : Calls Tryz.prog 279 #[.agg #[], v] w fun e w' => e = .returned (.tuple #[]) ∧ Chg Non w w' := by
 go_enter Tryz.func279, Tryz.ntmps279
 go_wp2
 go_end0
 exact ⟨rfl, (Chg.refl Non w).alloc _⟩
set_option maxRecDepth 100000 in
theorem tick_ok (N : Nat → Prop) (w : World) (k : Kn) (a : KAt) (h : KerB N w k a) (hN : ∀ b, N b → b < w.heap.size) (hgd : k.Good) :
  Calls Tryz.prog 22 #[.pointer (some ⟨a.p, 0, none⟩)] w fun e w' => e = .returned (.tuple #[.bool k.turn.ends, .int .i64 0]) ∧ KerB N w' k.ticked a ∧ Chg a.own w w' := by
 obtain ⟨ap, q, v1, v2, v3, vp⟩ := a
 obtain ⟨A1, c1, e1, hc1, hm1, _⟩ := h.ws
 simp only at e1
 subst e1
 have HK := Lib.hid h
 have HGD := Lib.hid hgd
 have HWs := Lib.hid h.ws
 clear h hgd
 show Calls _ _ #[.pointer (some ⟨ap, 0, none⟩)] _ _
 go_enter Tryz.func22, Tryz.ntmps22
 go_wp2_with fail
 refine (none_ok N w k ⟨ap, q, .slice A1 k.c.ws.length c1, v2, v3, vp⟩ HK.out).mono ?_
 rintro e u ⟨rfl, hg⟩
 have HGu := Lib.hid hg
 clear hg
 go_wp2_with fail
 obtain ⟨V, hV⟩ : ∃ x, x = u.drew := ⟨_, rfl⟩
 have hgV : Chg Non w V := by rw [hV]; exact HGu.out.drew
 have HGV := Lib.hid hgV
 have HKV := Lib.hid (HK.out.non hgV)
 obtain ⟨vq, hkV, _⟩ := HKV.out.cell
 have f1 : V.cell? ⟨ap, 1, none⟩ = some (.slice A1 k.c.ws.length c1) := blk_cell hkV 1 rfl
 have f8 : V.cell? ⟨ap, 8, none⟩ = some (.int .i64 k.tick) := blk_cell hkV 8 rfl
 have HAt := Lib.hid (fun W (hW : Chg Non V W) => schAt_ok _ A1 k.c.ws c1 k.tick W (by
   obtain ⟨_, _, e, _, _, hr⟩ := HWs.out
   injection e with e _ _
   subst e
   exact (hr.non hgV (fun _ _ h => h)).non hW (fun _ _ h => h)) hc1 hm1 HGD.out.sch HGD.out.t0 HGD.out.t1)
 have HFr := Lib.hid (fun W (hW : Chg Non w W) => schFrame_ok _ A1 k.c.ws c1 W (by
   obtain ⟨_, _, e, _, _, hr⟩ := HWs.out
   injection e with e _ _
   subst e
   exact hr.non hW (fun _ _ h => h)) hc1 hm1)
 clear hkV hgV HGu
 apply wp_cutB (α := Nat × Nat × Win) (f := fun y x => match y with | (ob, kk, aw) => (((((((((((((((x.put (some 9) (.pointer (some ⟨ap, 0, none⟩))).put (some 10) (.pointer (some ⟨ap, 0, none⟩))).put (some 11) (.pointer (some ⟨ap, 1, none⟩))).put (some 12) (.pointer (some ⟨ap, 1, none⟩))).put (some 13) (.slice A1 k.c.ws.length c1)).put (some 14) (.pointer (some ⟨ap, 0, none⟩))).put (some 15) (.pointer (some ⟨ap, 0, none⟩))).put (some 16) (.pointer (some ⟨ap, 8, none⟩))).put (some 17) (.int .i64 k.tick)).put (some 18) (.tuple #[.agg #[.int .i64 (kk : Int), .int .i64 aw.part, .int .i64 (wsum (k.c.ws.take kk)), .int .i64 (wsum (k.c.ws.take kk) + aw.len - k.tick)], .int .i64 0])).put (some 8) (.tuple #[.agg #[.int .i64 (kk : Int), .int .i64 aw.part, .int .i64 (wsum (k.c.ws.take kk)), .int .i64 (wsum (k.c.ws.take kk) + aw.len - k.tick)], .int .i64 0])).put (some 19) (.agg #[.int .i64 (kk : Int), .int .i64 aw.part, .int .i64 (wsum (k.c.ws.take kk)), .int .i64 (wsum (k.c.ws.take kk) + aw.len - k.tick)])).put (some 20) (.int .i64 0)).put (some 4) (.pointer (some ⟨ob, 0, none⟩))).put (some 5) (.int .i64 0)))
  (R := fun y v => match y with | (ob, kk, aw) => v.heap[ob]? = some (.cells #[.int .i64 (kk : Int), .int .i64 aw.part, .int .i64 (wsum (k.c.ws.take kk)), .int .i64 (wsum (k.c.ws.take kk) + aw.len - k.tick)] 88 (0, 0)) ∧ SlotAt k.c.ws k.tick kk aw ∧ Chg Non V v ∧ V.heap.size ≤ ob)
 ·refine wp_region_held_drew (S := Chg Non u.drew) (by kernel_rfl) (Chg.refl _ _) (fun hHeld => ?_)
  clear hHeld
  rw [← hV]
  clear hV
  refine hp 0 9 (.pointer (some ⟨ap, 0, none⟩)) rfl ((Chg.refl _ _)) ?_ (hQ := (fun _ _ _ h => absurd h.1 (by simp)))
  refine hp 1 10 (.pointer (some ⟨ap, 0, none⟩)) rfl ((Chg.refl _ _)) ?_ (hQ := (fun _ _ _ h => absurd h.1 (by simp)))
  refine hp 2 11 (.pointer (some ⟨ap, 1, none⟩)) rfl ((Chg.refl _ _)) ?_ (hQ := (fun _ _ _ h => absurd h.1 (by simp)))
  refine hp 3 12 (.pointer (some ⟨ap, 1, none⟩)) rfl ((Chg.refl _ _)) ?_ (hQ := (fun _ _ _ h => absurd h.1 (by simp)))
  refine hp 4 13 (.slice A1 k.c.ws.length c1) rfl ((Chg.refl _ _)) ?_ (he := (fun W hW => by have hc := hW.cell_some f1 (fun e => e); go_simp)) (hQ := (fun _ _ _ h => absurd h.1 (by simp)))
  refine hp 5 14 (.pointer (some ⟨ap, 0, none⟩)) rfl ((Chg.refl _ _)) ?_ (hQ := (fun _ _ _ h => absurd h.1 (by simp)))
  refine hp 6 15 (.pointer (some ⟨ap, 0, none⟩)) rfl ((Chg.refl _ _)) ?_ (hQ := (fun _ _ _ h => absurd h.1 (by simp)))
  refine hp 7 16 (.pointer (some ⟨ap, 8, none⟩)) rfl ((Chg.refl _ _)) ?_ (hQ := (fun _ _ _ h => absurd h.1 (by simp)))
  refine hp 8 17 (.int .i64 k.tick) rfl ((Chg.refl _ _)) ?_ (he := (fun W hW => by have hc := hW.cell_some f8 (fun e => e); go_simp)) (hQ := (fun _ _ _ h => absurd h.1 (by simp)))
  refine h_two 9 13 (by kernel_rfl) rfl rfl (by kernel_rfl) (by kernel_rfl) ?_ ?_
  ·intro K hK
   go_simp
   refine (HAt.out V (Chg.refl _ _)).mono ?_
   rintro e u1 ⟨kk, aw, hsl, rfl, hg1⟩
   have HU1 : Hid (Chg Non V u1) := Lib.hid hg1
   have HslX := Lib.hid hsl
   have HvV := HU1.out.size
   clear hg1 hsl
   refine hK.out _ _ HU1.out (fun _ => ?_)
   clear hK K
   try simp only [Act.put, sA, sB, sC]
   refine hp 10 8 (.tuple #[.agg #[.int .i64 (kk : Int), .int .i64 aw.part, .int .i64 (wsum (k.c.ws.take kk)), .int .i64 (wsum (k.c.ws.take kk) + aw.len - k.tick)], .int .i64 0]) rfl HU1.out ?_ (hQ := (fun _ _ _ h => absurd h.1 (by simp)))
   refine hp 11 19 (.agg #[.int .i64 (kk : Int), .int .i64 aw.part, .int .i64 (wsum (k.c.ws.take kk)), .int .i64 (wsum (k.c.ws.take kk) + aw.len - k.tick)]) rfl HU1.out ?_ (hQ := (fun _ _ _ h => absurd h.1 (by simp)))
   refine hp 12 20 (.int .i64 0) rfl HU1.out ?_ (hQ := (fun _ _ _ h => absurd h.1 (by simp)))
   refine h_one 13 (by kernel_rfl) rfl (by kernel_rfl) ?_
   intro K hK
   go_simp
   refine hK.out _ _ (HU1.out.alloc _) (fun _ => ?_)
   clear hK K
   try simp only [Act.put, sA, sB, sC]
   refine h_store 14 88 (.tmp 4) (.tmp 19) u1.heap.size #[.int .i64 (kk : Int), .int .i64 aw.part, .int .i64 (wsum (k.c.ws.take kk)), .int .i64 (wsum (k.c.ws.take kk) + aw.len - k.tick)] (by kernel_rfl) rfl (by kernel_rfl) rfl rfl rfl rfl 88 ⟨_, heap_alloc_new _ _, rfl⟩ (by kernel_rfl) (by simp [Value.oneCell']) (fun W hg hb => (HU1.out.alloc _).then_new hg (fun x e => by have := HvV; omega)) ?_
   intro W5 hgW hbW
   refine hp 15 5 (.int .i64 0) rfl ((HU1.out.alloc _).then_new hgW (fun x e => by have := HvV; omega)) ?_ (hQ := (fun _ _ _ h => absurd h.1 (by simp)))
   refine wpAnyH_done (by kernel_rfl) ?_ _
   exact ⟨rfl, (u1.heap.size, kk, aw), by kernel_rfl, hbW, HslX.out, (HU1.out.alloc _).then_new hgW (fun x e => by have := HvV; omega), by have := HvV; omega⟩
  ·intro K hK
   go_simp
   refine hK.out _ _ ((Chg.refl Non V).alloc _) (fun _ => ?_)
   clear hK K
   try simp only [Act.put, sA, sB, sC]
   refine h_one 9 (by kernel_rfl) rfl (by kernel_rfl) ?_
   intro K hK
   go_simp
   refine (HAt.out _ ((Chg.refl Non V).alloc _)).mono ?_
   rintro e u1 ⟨kk, aw, hsl, rfl, hg1⟩
   have HU1 : Hid (Chg Non V u1) := Lib.hid (((Chg.refl Non V).alloc _).then_non hg1)
   have HB1 := Lib.hid (blk_call hg1)
   have HslX := Lib.hid hsl
   have HvV := Nat.le_refl V.heap.size
   clear hg1 hsl
   refine hK.out _ _ HU1.out (fun _ => ?_)
   clear hK K
   try simp only [Act.put, sA, sB, sC]
   refine hp 10 8 (.tuple #[.agg #[.int .i64 (kk : Int), .int .i64 aw.part, .int .i64 (wsum (k.c.ws.take kk)), .int .i64 (wsum (k.c.ws.take kk) + aw.len - k.tick)], .int .i64 0]) rfl HU1.out ?_ (hQ := (fun _ _ _ h => absurd h.1 (by simp)))
   refine hp 11 19 (.agg #[.int .i64 (kk : Int), .int .i64 aw.part, .int .i64 (wsum (k.c.ws.take kk)), .int .i64 (wsum (k.c.ws.take kk) + aw.len - k.tick)]) rfl HU1.out ?_ (hQ := (fun _ _ _ h => absurd h.1 (by simp)))
   refine hp 12 20 (.int .i64 0) rfl HU1.out ?_ (hQ := (fun _ _ _ h => absurd h.1 (by simp)))
   refine h_store 14 88 (.tmp 4) (.tmp 19) V.heap.size #[.int .i64 (kk : Int), .int .i64 aw.part, .int .i64 (wsum (k.c.ws.take kk)), .int .i64 (wsum (k.c.ws.take kk) + aw.len - k.tick)] (by kernel_rfl) rfl (by kernel_rfl) rfl rfl rfl rfl 88 ⟨_, HB1.out, rfl⟩ (by kernel_rfl) (by simp [Value.oneCell']) (fun W hg hb => HU1.out.then_new hg (fun x e => by have := HvV; omega)) ?_
   intro W5 hgW hbW
   refine hp 15 5 (.int .i64 0) rfl (HU1.out.then_new hgW (fun x e => by have := HvV; omega)) ?_ (hQ := (fun _ _ _ h => absurd h.1 (by simp)))
   refine wpAnyH_done (by kernel_rfl) ?_ _
   exact ⟨rfl, (V.heap.size, kk, aw), by kernel_rfl, hbW, HslX.out, HU1.out.then_new hgW (fun x e => by have := HvV; omega), by have := HvV; omega⟩
 rintro ⟨sb, kk, aw⟩ W3 ⟨hsb, hsl, hg3, hle⟩
 simp only [Act.put, sA, sB, sC]
 have hall : ∀ x ∈ k.c.ws, winOk x = true := (schMay_bd HGD.out.sch).2.2.1
 have hsv := hsl.slot hall
 obtain ⟨fs, hfs⟩ : ∃ x, wsum (k.c.ws.take kk) = x := ⟨_, rfl⟩
 obtain ⟨pt, hpt⟩ : ∃ x, aw.part = x := ⟨_, rfl⟩
 obtain ⟨lf, hlf⟩ : ∃ x, wsum (k.c.ws.take kk) + aw.len - k.tick = x := ⟨_, rfl⟩
 rw [hlf] at hsb ⊢
 rw [hfs] at hsb hsv ⊢
 rw [hpt] at hsb hsv ⊢
 have HSB := Lib.hid hsb
 have HG3 := Lib.hid (HGV.out.then_non hg3)
 have HK3 := Lib.hid (HK.out.non HG3.out)
 obtain ⟨vq3, hk3, _⟩ := HK3.out.cell
 have f83 : W3.cell? ⟨ap, 8, none⟩ = some (.int .i64 k.tick) := blk_cell hk3 8 rfl
 have s2 : W3.cell? ⟨sb, 2, none⟩ = some (.int .i64 fs) := blk_cell hsb 2 rfl
 have hw3 : w.heap.size ≤ sb := Nat.le_trans HGV.out.size hle
 have hapN : ap < w.heap.size := hN ap (HK.out.sub ap (.inl rfl))
 have hSum := (schMay_bd HGD.out.sch).2.2.2
 have hT0 := HGD.out.t0
 have hT1 := HGD.out.t1
 obtain ⟨frm, hfrm⟩ : ∃ x, wsum k.c.ws = x := ⟨_, rfl⟩
 rw [hfrm] at hSum hT1
 have HFRM := Lib.hid hfrm
 have hwt : IntKind.i64.wrap (k.tick + 1) = k.tick + 1 := Go.IntWalk.i64_in _ (by omega)
 have HFs := Lib.hid (show (slotV k.c.ws k.tick).1 = fs by rw [hsv])
 have HPt := Lib.hid (show (slotV k.c.ws k.tick).2 = pt by rw [hsv])
 clear hsv hfs hpt hlf hsl hk3 hfrm hg3 hle HKV HGV HAt f1 f8 hall HFr hsb
 go_wp2_with fail
 go_quiet (fail)
 by_cases hft : fs = k.tick
 ·have hde : (fs == k.tick) = true := by simpa using hft
  have HFr' : Hid (k.fresh = { k with yl := false }) := Lib.hid (by unfold Kn.fresh; rw [HFs.out, if_pos hft])
  have HK4 := Lib.hid (HK3.out.non ((Chg.refl Non W3).drewN nq))
  obtain ⟨vq4, hk4, _⟩ := HK4.out.cell
  have f10 : World.cell? (W3.drewN nq) ⟨ap, 10, none⟩ = some (.bool k.yl) := blk_cell hk4 10 rfl
  have z10 := blk_free hk4 10
  have HK5 := Lib.hid (HK4.out.setYl false)
  have HG5 : Hid (Chg (KAt.own ⟨ap, q, .slice A1 k.c.ws.length c1, v2, v3, vp⟩) w ((W3.drewN nq).setCell ⟨ap, 10, none⟩ (.bool false))) := Lib.hid (((HG3.out.drewN nq).of_non).trans_same ((chg_set _ ap 10 _).mono (fun x e => .inl e)))
  have HSX : Hid (((W3.drewN nq).setCell ⟨ap, 10, none⟩ (.bool false)).heap[sb]? = some (.cells #[.int .i64 (kk : Int), .int .i64 pt, .int .i64 fs, .int .i64 lf] 88 (0, 0))) := Lib.hid (blk_keep (S := fun b => b = ap) HSB.out (((Chg.refl Non W3).drewN nq).non_then (chg_set _ ap 10 _)) (fun e => by omega))
  clear hk4 hft
  go_wp2_with (refine sel (some 32) (.load 88 _) ?_; refine Vm_stop ?_)
  refine HoleV.mk ?_
  clear f10 z10 hde f83 s2
  generalize (W3.drewN nq).setCell ⟨ap, 10, none⟩ (.bool false) = X at HK5 HG5 HSX ⊢
  have HKX : Hid (KerB N X k.fresh ⟨ap, q, .slice A1 k.c.ws.length c1, v2, v3, vp⟩) := Lib.hid (by rw [HFr'.out]; exact HK5.out)
  have HGX := HG5
  obtain ⟨s0, s1, s2, s3⟩ : X.cell? ⟨sb, 0, none⟩ = some (.int .i64 (kk : Int)) ∧ X.cell? ⟨sb, 1, none⟩ = some (.int .i64 pt) ∧ X.cell? ⟨sb, 2, none⟩ = some (.int .i64 fs) ∧ X.cell? ⟨sb, 3, none⟩ = some (.int .i64 lf) := ⟨blk_cell HSX.out 0 rfl, blk_cell HSX.out 1 rfl, blk_cell HSX.out 2 rfl, blk_cell HSX.out 3 rfl⟩
  have hwh := whose_ok N X k.fresh ⟨ap, q, .slice A1 k.c.ws.length c1, v2, v3, vp⟩ (kk : Int) fs lf pt HKX.out
  rw [(fresh_s k).1] at hwh
  have HTS := Lib.hid (turn_same k)
  by_cases hj0 : idxOf (idP pt) k.s.parts < 0
  ·rw [if_pos hj0] at hwh
   have HWh := Lib.hid hwh
   have HTu : Hid (k.turn = k.fresh) := Lib.hid (by unfold Kn.turn; rw [HPt.out, if_pos hj0])
   clear hwh
   go_wp2_with fail
   refine HWh.out.mono ?_
   rintro e u6 ⟨rfl, hg6⟩
   have HK6 := Lib.hid (HKX.out.non hg6)
   have HG6 := Lib.hid (HGX.out.then_non hg6)
   clear hg6 s0 s1 s2 s3 hj0
   go_wp2_with fail
   refine (nobody_ok _ _).mono ?_
   rintro e Z ⟨rfl, hg7⟩
   have HKZ : Hid (KerB N Z k.turn ⟨ap, q, .slice A1 k.c.ws.length c1, v2, v3, vp⟩) := Lib.hid (by rw [HTu.out]; exact HK6.out.non hg7)
   have HGZ := Lib.hid (HG6.out.then_non hg7)
   clear hg7
   obtain ⟨vqZ, hkZ, _⟩ := HKZ.out.cell
   have g8 : Z.cell? ⟨ap, 8, none⟩ = some (.int .i64 k.tick) := blk_cell hkZ 8 (by rw [← HTS.out.2]; rfl)
   have z8 := blk_free hkZ 8
   have HK7 := Lib.hid (HKZ.out.setTick (k.tick + 1) (by unfold I64; omega))
   have HG7 : Hid (Chg (KAt.own ⟨ap, q, .slice A1 k.c.ws.length c1, v2, v3, vp⟩) w (Z.setCell ⟨ap, 8, none⟩ (.int .i64 (k.tick + 1)))) := Lib.hid (HGZ.out.trans_same ((chg_set Z ap 8 (.int .i64 (k.tick + 1))).mono (fun x e => .inl e)))
   clear hkZ
   go_wp2_with fail
   clear g8 z8
   obtain ⟨Y, hY⟩ : ∃ x, x = (Z.setCell ⟨ap, 8, none⟩ (.int .i64 (k.tick + 1))).drew := ⟨_, rfl⟩
   have hdY : Chg Non (Z.setCell ⟨ap, 8, none⟩ (.int .i64 (k.tick + 1))) Y := by rw [hY]; exact (Chg.refl Non _).drew
   have HKY := Lib.hid (HK7.out.non hdY)
   have HGY := Lib.hid (HG7.out.then_non hdY)
   obtain ⟨vqY, hkY, _⟩ := HKY.out.cell
   have g8 : Y.cell? ⟨ap, 8, none⟩ = some (.int .i64 (k.tick + 1)) := blk_cell hkY 8 rfl
   have g1 : Y.cell? ⟨ap, 1, none⟩ = some (.slice A1 k.c.ws.length c1) := blk_cell hkY 1 rfl
   have hFY := schFrame_ok (fun b => ¬ N b) A1 k.c.ws c1 Y (by
     obtain ⟨A9, c9, e, _, _, hr⟩ := HKY.out.ws
     have hcw : ({ k.turn with tick := k.tick + 1 } : Kn).c.ws = k.c.ws := by show k.turn.c.ws = _; rw [HTS.out.1]
     rw [hcw] at hr e
     injection e with e _ _
     rw [e]
     exact hr) hc1 hm1
   rw [show schFrame k.c.ws = frm from by rw [schFrame, if_pos HGD.out.sch, HFRM.out]] at hFY
   have HFY := Lib.hid hFY
   clear hkY hdY hFY
   refine wp_region_held_drew (S := Chg Non (Z.setCell ⟨ap, 8, none⟩ (.int .i64 (k.tick + 1))).drew) (by kernel_rfl) (Chg.refl _ _) (fun hHeld => ?_)
   clear hHeld
   rw [← hY]
   clear hY
   refine hp 0 43 (.pointer (some ⟨ap, 0, none⟩)) rfl (Chg.refl _ _) ?_
   refine hp 1 44 (.pointer (some ⟨ap, 0, none⟩)) rfl (Chg.refl _ _) ?_
   refine hp 2 45 (.pointer (some ⟨ap, 8, none⟩)) rfl (Chg.refl _ _) ?_
   refine hp 3 46 (.int .i64 (k.tick + 1)) rfl (Chg.refl _ _) ?_ (he := (fun W hW => by have hc := hW.cell_some g8 (fun e => e); go_simp))
   refine hp 4 47 (.pointer (some ⟨ap, 0, none⟩)) rfl (Chg.refl _ _) ?_
   refine hp 5 48 (.pointer (some ⟨ap, 0, none⟩)) rfl (Chg.refl _ _) ?_
   refine hp 6 49 (.pointer (some ⟨ap, 1, none⟩)) rfl (Chg.refl _ _) ?_
   refine hp 7 50 (.pointer (some ⟨ap, 1, none⟩)) rfl (Chg.refl _ _) ?_
   refine hp 8 51 (.slice A1 k.c.ws.length c1) rfl (Chg.refl _ _) ?_ (he := (fun W hW => by have hc := hW.cell_some g1 (fun e => e); go_simp))
   refine h_one 9 (by kernel_rfl) rfl (by kernel_rfl) ?_
   intro K hK
   go_simp
   refine (HFY.out).mono ?_
   rintro e u8 ⟨rfl, hg⟩
   have HU8 := Lib.hid hg
   clear hg
   refine hK.out _ _ HU8.out (fun _ => ?_)
   clear hK K
   try simp only [Act.put, sA, sB, sC]
   refine hp 10 53 (.bool (decide (k.tick + 1 < frm))) rfl HU8.out ?_
   refine wpAnyH_done (by kernel_rfl) ?_ _
   have HK8 := Lib.hid (HKY.out.non HU8.out)
   have HG8 := Lib.hid (HGY.out.then_non HU8.out)
   clear g8 g1 HFY
   by_cases hlt : k.tick + 1 < frm
   ·have hd : decide (k.tick + 1 < frm) = true := by simpa using hlt
    have HE : Hid (k.ticked = { k.turn with tick := k.tick + 1 } ∧ k.turn.ends = false) := Lib.hid (by
      have hc : k.turn.tick + 1 < wsum k.turn.c.ws := by rw [HTS.out.1, HTS.out.2, HFRM.out]; exact hlt
      refine ⟨?_, by unfold Kn.ends; simp [hc]⟩
      unfold Kn.ticked Kn.next
      rw [if_pos hc, HTS.out.2])
    go_wp2_with fail
    go_ret2
    refine ⟨by rw [HE.out.2]; rfl, ?_, HG8.out⟩
    rw [HE.out.1]
    exact HK8.out
   ·have hd : decide (k.tick + 1 < frm) = false := by simpa using hlt
    have HE : Hid (k.ticked = { k.turn with tick := 0, s := { k.turn.s with frames := min (k.turn.s.frames + 1) 1099511627776 } } ∧ k.turn.ends = true) := Lib.hid (by
      have hc : ¬ k.turn.tick + 1 < wsum k.turn.c.ws := by rw [HTS.out.1, HTS.out.2, HFRM.out]; exact hlt
      refine ⟨?_, by unfold Kn.ends; simp [hc]⟩
      unfold Kn.ticked Kn.next
      rw [if_neg hc])
    have hf0 := HGD.out.turn.f0
    have hf1 := HGD.out.turn.f1
    have HK9 := Lib.hid (HK8.out.setTick 0 (by unfold I64; omega))
    have HG9 : Hid (Chg (KAt.own ⟨ap, q, .slice A1 k.c.ws.length c1, v2, v3, vp⟩) w (u8.setCell ⟨ap, 8, none⟩ (.int .i64 0))) := Lib.hid (HG8.out.trans_same ((chg_set u8 ap 8 (.int .i64 0)).mono (fun x e => .inl e)))
    obtain ⟨vq8, hk8, _⟩ := HK8.out.cell
    have g8 : u8.cell? ⟨ap, 8, none⟩ = some (.int .i64 (k.tick + 1)) := blk_cell hk8 8 rfl
    have z8 := blk_free hk8 8
    have g4 : u8.cell? ⟨ap, 4, none⟩ = some (.int .i64 k.turn.s.frames) := blk_cell hk8 4 rfl
    have z4 := blk_free hk8 4
    obtain ⟨f9, hf9⟩ : ∃ x, k.turn.s.frames = x := ⟨_, rfl⟩
    rw [hf9] at g4 hf0 hf1
    have HF9 := Lib.hid hf9
    have hwf : IntKind.i64.wrap (f9 + 1) = f9 + 1 := Go.IntWalk.i64_in _ (by omega)
    clear hk8 hf9
    have HKA := Lib.hid (HK9.out.setFrames (min (f9 + 1) 1099511627776) (by unfold I64; omega))
    have HGA : Hid (Chg (KAt.own ⟨ap, q, .slice A1 k.c.ws.length c1, v2, v3, vp⟩) w ((u8.setCell ⟨ap, 8, none⟩ (.int .i64 0)).setCell ⟨ap, 4, none⟩ (.int .i64 (min (f9 + 1) 1099511627776)))) := Lib.hid (HG9.out.trans_same ((chg_set _ ap 4 _).mono (fun x e => .inl e)))
    go_wp2_with fail
    go_ret2
    refine ⟨by rw [HE.out.2]; rfl, ?_, HGA.out⟩
    rw [HE.out.1, HF9.out]
    exact HKA.out
  ·rw [if_neg hj0] at hwh
   obtain ⟨i, hi⟩ : ∃ i : Nat, idxOf (idP pt) k.s.parts = i := ⟨(idxOf (idP pt) k.s.parts).toNat, by omega⟩
   obtain ⟨pp, hpp, _⟩ := idx_at hj0
   have HTu : Hid (k.turn = doesV i k.fresh) := Lib.hid (by unfold Kn.turn; rw [HPt.out, if_neg hj0, hi, Int.toNat_natCast])
   rw [hi] at hwh hpp
   rw [Int.toNat_natCast] at hpp
   have HWh := Lib.hid hwh
   have HPp := Lib.hid hpp
   clear hwh hj0 hi hpp
   go_wp2_with fail
   refine HWh.out.mono ?_
   rintro e u6 ⟨rfl, hg6⟩
   have HK6 := Lib.hid (HKX.out.non hg6)
   have HG6 := Lib.hid (HGX.out.then_non hg6)
   have hs6 := HG6.out.size
   clear hg6 s0 s1 s2 s3
   go_wp2_with fail
   refine (does_ok N u6 k.fresh ⟨ap, q, .slice A1 k.c.ws.length c1, v2, v3, vp⟩ i pp HK6.out (fun b e => Nat.lt_of_lt_of_le (hN b e) hs6) HGD.out.fresh (by rw [(fresh_s k).1]; exact HPp.out)).mono ?_
   rintro e Z ⟨rfl, hk7, hg7⟩
   have HKZ : Hid (KerB N Z k.turn ⟨ap, q, .slice A1 k.c.ws.length c1, v2, v3, vp⟩) := Lib.hid (by rw [HTu.out]; exact hk7)
   have HGZ := Lib.hid (HG6.out.trans_same hg7)
   clear hg7 hk7
   obtain ⟨vqZ, hkZ, _⟩ := HKZ.out.cell
   have g8 : Z.cell? ⟨ap, 8, none⟩ = some (.int .i64 k.tick) := blk_cell hkZ 8 (by rw [← HTS.out.2]; rfl)
   have z8 := blk_free hkZ 8
   have HK7 := Lib.hid (HKZ.out.setTick (k.tick + 1) (by unfold I64; omega))
   have HG7 : Hid (Chg (KAt.own ⟨ap, q, .slice A1 k.c.ws.length c1, v2, v3, vp⟩) w (Z.setCell ⟨ap, 8, none⟩ (.int .i64 (k.tick + 1)))) := Lib.hid (HGZ.out.trans_same ((chg_set Z ap 8 (.int .i64 (k.tick + 1))).mono (fun x e => .inl e)))
   clear hkZ
   go_wp2_with fail
   clear g8 z8
   obtain ⟨Y, hY⟩ : ∃ x, x = (Z.setCell ⟨ap, 8, none⟩ (.int .i64 (k.tick + 1))).drew := ⟨_, rfl⟩
   have hdY : Chg Non (Z.setCell ⟨ap, 8, none⟩ (.int .i64 (k.tick + 1))) Y := by rw [hY]; exact (Chg.refl Non _).drew
   have HKY := Lib.hid (HK7.out.non hdY)
   have HGY := Lib.hid (HG7.out.then_non hdY)
   obtain ⟨vqY, hkY, _⟩ := HKY.out.cell
   have g8 : Y.cell? ⟨ap, 8, none⟩ = some (.int .i64 (k.tick + 1)) := blk_cell hkY 8 rfl
   have g1 : Y.cell? ⟨ap, 1, none⟩ = some (.slice A1 k.c.ws.length c1) := blk_cell hkY 1 rfl
   have hFY := schFrame_ok (fun b => ¬ N b) A1 k.c.ws c1 Y (by
     obtain ⟨A9, c9, e, _, _, hr⟩ := HKY.out.ws
     have hcw : ({ k.turn with tick := k.tick + 1 } : Kn).c.ws = k.c.ws := by show k.turn.c.ws = _; rw [HTS.out.1]
     rw [hcw] at hr e
     injection e with e _ _
     rw [e]
     exact hr) hc1 hm1
   rw [show schFrame k.c.ws = frm from by rw [schFrame, if_pos HGD.out.sch, HFRM.out]] at hFY
   have HFY := Lib.hid hFY
   clear hkY hdY hFY
   refine wp_region_held_drew (S := Chg Non (Z.setCell ⟨ap, 8, none⟩ (.int .i64 (k.tick + 1))).drew) (by kernel_rfl) (Chg.refl _ _) (fun hHeld => ?_)
   clear hHeld
   rw [← hY]
   clear hY
   refine hp 0 43 (.pointer (some ⟨ap, 0, none⟩)) rfl (Chg.refl _ _) ?_
   refine hp 1 44 (.pointer (some ⟨ap, 0, none⟩)) rfl (Chg.refl _ _) ?_
   refine hp 2 45 (.pointer (some ⟨ap, 8, none⟩)) rfl (Chg.refl _ _) ?_
   refine hp 3 46 (.int .i64 (k.tick + 1)) rfl (Chg.refl _ _) ?_ (he := (fun W hW => by have hc := hW.cell_some g8 (fun e => e); go_simp))
   refine hp 4 47 (.pointer (some ⟨ap, 0, none⟩)) rfl (Chg.refl _ _) ?_
   refine hp 5 48 (.pointer (some ⟨ap, 0, none⟩)) rfl (Chg.refl _ _) ?_
   refine hp 6 49 (.pointer (some ⟨ap, 1, none⟩)) rfl (Chg.refl _ _) ?_
   refine hp 7 50 (.pointer (some ⟨ap, 1, none⟩)) rfl (Chg.refl _ _) ?_
   refine hp 8 51 (.slice A1 k.c.ws.length c1) rfl (Chg.refl _ _) ?_ (he := (fun W hW => by have hc := hW.cell_some g1 (fun e => e); go_simp))
   refine h_one 9 (by kernel_rfl) rfl (by kernel_rfl) ?_
   intro K hK
   go_simp
   refine (HFY.out).mono ?_
   rintro e u8 ⟨rfl, hg⟩
   have HU8 := Lib.hid hg
   clear hg
   refine hK.out _ _ HU8.out (fun _ => ?_)
   clear hK K
   try simp only [Act.put, sA, sB, sC]
   refine hp 10 53 (.bool (decide (k.tick + 1 < frm))) rfl HU8.out ?_
   refine wpAnyH_done (by kernel_rfl) ?_ _
   have HK8 := Lib.hid (HKY.out.non HU8.out)
   have HG8 := Lib.hid (HGY.out.then_non HU8.out)
   clear g8 g1 HFY
   by_cases hlt : k.tick + 1 < frm
   ·have hd : decide (k.tick + 1 < frm) = true := by simpa using hlt
    have HE : Hid (k.ticked = { k.turn with tick := k.tick + 1 } ∧ k.turn.ends = false) := Lib.hid (by
      have hc : k.turn.tick + 1 < wsum k.turn.c.ws := by rw [HTS.out.1, HTS.out.2, HFRM.out]; exact hlt
      refine ⟨?_, by unfold Kn.ends; simp [hc]⟩
      unfold Kn.ticked Kn.next
      rw [if_pos hc, HTS.out.2])
    go_wp2_with fail
    go_ret2
    refine ⟨by rw [HE.out.2]; rfl, ?_, HG8.out⟩
    rw [HE.out.1]
    exact HK8.out
   ·have hd : decide (k.tick + 1 < frm) = false := by simpa using hlt
    have HE : Hid (k.ticked = { k.turn with tick := 0, s := { k.turn.s with frames := min (k.turn.s.frames + 1) 1099511627776 } } ∧ k.turn.ends = true) := Lib.hid (by
      have hc : ¬ k.turn.tick + 1 < wsum k.turn.c.ws := by rw [HTS.out.1, HTS.out.2, HFRM.out]; exact hlt
      refine ⟨?_, by unfold Kn.ends; simp [hc]⟩
      unfold Kn.ticked Kn.next
      rw [if_neg hc])
    have hf0 := HGD.out.turn.f0
    have hf1 := HGD.out.turn.f1
    have HK9 := Lib.hid (HK8.out.setTick 0 (by unfold I64; omega))
    have HG9 : Hid (Chg (KAt.own ⟨ap, q, .slice A1 k.c.ws.length c1, v2, v3, vp⟩) w (u8.setCell ⟨ap, 8, none⟩ (.int .i64 0))) := Lib.hid (HG8.out.trans_same ((chg_set u8 ap 8 (.int .i64 0)).mono (fun x e => .inl e)))
    obtain ⟨vq8, hk8, _⟩ := HK8.out.cell
    have g8 : u8.cell? ⟨ap, 8, none⟩ = some (.int .i64 (k.tick + 1)) := blk_cell hk8 8 rfl
    have z8 := blk_free hk8 8
    have g4 : u8.cell? ⟨ap, 4, none⟩ = some (.int .i64 k.turn.s.frames) := blk_cell hk8 4 rfl
    have z4 := blk_free hk8 4
    obtain ⟨f9, hf9⟩ : ∃ x, k.turn.s.frames = x := ⟨_, rfl⟩
    rw [hf9] at g4 hf0 hf1
    have HF9 := Lib.hid hf9
    have hwf : IntKind.i64.wrap (f9 + 1) = f9 + 1 := Go.IntWalk.i64_in _ (by omega)
    clear hk8 hf9
    have HKA := Lib.hid (HK9.out.setFrames (min (f9 + 1) 1099511627776) (by unfold I64; omega))
    have HGA : Hid (Chg (KAt.own ⟨ap, q, .slice A1 k.c.ws.length c1, v2, v3, vp⟩) w ((u8.setCell ⟨ap, 8, none⟩ (.int .i64 0)).setCell ⟨ap, 4, none⟩ (.int .i64 (min (f9 + 1) 1099511627776)))) := Lib.hid (HG9.out.trans_same ((chg_set _ ap 4 _).mono (fun x e => .inl e)))
    go_wp2_with fail
    go_ret2
    refine ⟨by rw [HE.out.2]; rfl, ?_, HGA.out⟩
    rw [HE.out.1, HF9.out]
    exact HKA.out
 ·have hde : (fs == k.tick) = false := by simpa using hft
  have HFr' : Hid (k.fresh = k) := Lib.hid (by unfold Kn.fresh; rw [HFs.out, if_neg hft])
  have HK5 := Lib.hid (HK3.out.non ((Chg.refl Non W3).drewN nq))
  have HG5 : Hid (Chg (KAt.own ⟨ap, q, .slice A1 k.c.ws.length c1, v2, v3, vp⟩) w (W3.drewN nq)) := Lib.hid ((HG3.out.drewN nq).of_non)
  have HSX : Hid ((W3.drewN nq).heap[sb]? = some (.cells #[.int .i64 (kk : Int), .int .i64 pt, .int .i64 fs, .int .i64 lf] 88 (0, 0))) := HSB
  clear hft
  go_wp2_with (refine sel (some 32) (.load 88 _) ?_; refine Vm_stop ?_)
  refine HoleV.mk ?_
  clear hde f83 s2
  generalize W3.drewN nq = X at HK5 HG5 HSX ⊢
  have HKX : Hid (KerB N X k.fresh ⟨ap, q, .slice A1 k.c.ws.length c1, v2, v3, vp⟩) := Lib.hid (by rw [HFr'.out]; exact HK5.out)
  have HGX := HG5
  obtain ⟨s0, s1, s2, s3⟩ : X.cell? ⟨sb, 0, none⟩ = some (.int .i64 (kk : Int)) ∧ X.cell? ⟨sb, 1, none⟩ = some (.int .i64 pt) ∧ X.cell? ⟨sb, 2, none⟩ = some (.int .i64 fs) ∧ X.cell? ⟨sb, 3, none⟩ = some (.int .i64 lf) := ⟨blk_cell HSX.out 0 rfl, blk_cell HSX.out 1 rfl, blk_cell HSX.out 2 rfl, blk_cell HSX.out 3 rfl⟩
  have hwh := whose_ok N X k.fresh ⟨ap, q, .slice A1 k.c.ws.length c1, v2, v3, vp⟩ (kk : Int) fs lf pt HKX.out
  rw [(fresh_s k).1] at hwh
  have HTS := Lib.hid (turn_same k)
  by_cases hj0 : idxOf (idP pt) k.s.parts < 0
  ·rw [if_pos hj0] at hwh
   have HWh := Lib.hid hwh
   have HTu : Hid (k.turn = k.fresh) := Lib.hid (by unfold Kn.turn; rw [HPt.out, if_pos hj0])
   clear hwh
   go_wp2_with fail
   refine HWh.out.mono ?_
   rintro e u6 ⟨rfl, hg6⟩
   have HK6 := Lib.hid (HKX.out.non hg6)
   have HG6 := Lib.hid (HGX.out.then_non hg6)
   clear hg6 s0 s1 s2 s3 hj0
   go_wp2_with fail
   refine (nobody_ok _ _).mono ?_
   rintro e Z ⟨rfl, hg7⟩
   have HKZ : Hid (KerB N Z k.turn ⟨ap, q, .slice A1 k.c.ws.length c1, v2, v3, vp⟩) := Lib.hid (by rw [HTu.out]; exact HK6.out.non hg7)
   have HGZ := Lib.hid (HG6.out.then_non hg7)
   clear hg7
   obtain ⟨vqZ, hkZ, _⟩ := HKZ.out.cell
   have g8 : Z.cell? ⟨ap, 8, none⟩ = some (.int .i64 k.tick) := blk_cell hkZ 8 (by rw [← HTS.out.2]; rfl)
   have z8 := blk_free hkZ 8
   have HK7 := Lib.hid (HKZ.out.setTick (k.tick + 1) (by unfold I64; omega))
   have HG7 : Hid (Chg (KAt.own ⟨ap, q, .slice A1 k.c.ws.length c1, v2, v3, vp⟩) w (Z.setCell ⟨ap, 8, none⟩ (.int .i64 (k.tick + 1)))) := Lib.hid (HGZ.out.trans_same ((chg_set Z ap 8 (.int .i64 (k.tick + 1))).mono (fun x e => .inl e)))
   clear hkZ
   go_wp2_with fail
   clear g8 z8
   obtain ⟨Y, hY⟩ : ∃ x, x = (Z.setCell ⟨ap, 8, none⟩ (.int .i64 (k.tick + 1))).drew := ⟨_, rfl⟩
   have hdY : Chg Non (Z.setCell ⟨ap, 8, none⟩ (.int .i64 (k.tick + 1))) Y := by rw [hY]; exact (Chg.refl Non _).drew
   have HKY := Lib.hid (HK7.out.non hdY)
   have HGY := Lib.hid (HG7.out.then_non hdY)
   obtain ⟨vqY, hkY, _⟩ := HKY.out.cell
   have g8 : Y.cell? ⟨ap, 8, none⟩ = some (.int .i64 (k.tick + 1)) := blk_cell hkY 8 rfl
   have g1 : Y.cell? ⟨ap, 1, none⟩ = some (.slice A1 k.c.ws.length c1) := blk_cell hkY 1 rfl
   have hFY := schFrame_ok (fun b => ¬ N b) A1 k.c.ws c1 Y (by
     obtain ⟨A9, c9, e, _, _, hr⟩ := HKY.out.ws
     have hcw : ({ k.turn with tick := k.tick + 1 } : Kn).c.ws = k.c.ws := by show k.turn.c.ws = _; rw [HTS.out.1]
     rw [hcw] at hr e
     injection e with e _ _
     rw [e]
     exact hr) hc1 hm1
   rw [show schFrame k.c.ws = frm from by rw [schFrame, if_pos HGD.out.sch, HFRM.out]] at hFY
   have HFY := Lib.hid hFY
   clear hkY hdY hFY
   refine wp_region_held_drew (S := Chg Non (Z.setCell ⟨ap, 8, none⟩ (.int .i64 (k.tick + 1))).drew) (by kernel_rfl) (Chg.refl _ _) (fun hHeld => ?_)
   clear hHeld
   rw [← hY]
   clear hY
   refine hp 0 43 (.pointer (some ⟨ap, 0, none⟩)) rfl (Chg.refl _ _) ?_
   refine hp 1 44 (.pointer (some ⟨ap, 0, none⟩)) rfl (Chg.refl _ _) ?_
   refine hp 2 45 (.pointer (some ⟨ap, 8, none⟩)) rfl (Chg.refl _ _) ?_
   refine hp 3 46 (.int .i64 (k.tick + 1)) rfl (Chg.refl _ _) ?_ (he := (fun W hW => by have hc := hW.cell_some g8 (fun e => e); go_simp))
   refine hp 4 47 (.pointer (some ⟨ap, 0, none⟩)) rfl (Chg.refl _ _) ?_
   refine hp 5 48 (.pointer (some ⟨ap, 0, none⟩)) rfl (Chg.refl _ _) ?_
   refine hp 6 49 (.pointer (some ⟨ap, 1, none⟩)) rfl (Chg.refl _ _) ?_
   refine hp 7 50 (.pointer (some ⟨ap, 1, none⟩)) rfl (Chg.refl _ _) ?_
   refine hp 8 51 (.slice A1 k.c.ws.length c1) rfl (Chg.refl _ _) ?_ (he := (fun W hW => by have hc := hW.cell_some g1 (fun e => e); go_simp))
   refine h_one 9 (by kernel_rfl) rfl (by kernel_rfl) ?_
   intro K hK
   go_simp
   refine (HFY.out).mono ?_
   rintro e u8 ⟨rfl, hg⟩
   have HU8 := Lib.hid hg
   clear hg
   refine hK.out _ _ HU8.out (fun _ => ?_)
   clear hK K
   try simp only [Act.put, sA, sB, sC]
   refine hp 10 53 (.bool (decide (k.tick + 1 < frm))) rfl HU8.out ?_
   refine wpAnyH_done (by kernel_rfl) ?_ _
   have HK8 := Lib.hid (HKY.out.non HU8.out)
   have HG8 := Lib.hid (HGY.out.then_non HU8.out)
   clear g8 g1 HFY
   by_cases hlt : k.tick + 1 < frm
   ·have hd : decide (k.tick + 1 < frm) = true := by simpa using hlt
    have HE : Hid (k.ticked = { k.turn with tick := k.tick + 1 } ∧ k.turn.ends = false) := Lib.hid (by
      have hc : k.turn.tick + 1 < wsum k.turn.c.ws := by rw [HTS.out.1, HTS.out.2, HFRM.out]; exact hlt
      refine ⟨?_, by unfold Kn.ends; simp [hc]⟩
      unfold Kn.ticked Kn.next
      rw [if_pos hc, HTS.out.2])
    go_wp2_with fail
    go_ret2
    refine ⟨by rw [HE.out.2]; rfl, ?_, HG8.out⟩
    rw [HE.out.1]
    exact HK8.out
   ·have hd : decide (k.tick + 1 < frm) = false := by simpa using hlt
    have HE : Hid (k.ticked = { k.turn with tick := 0, s := { k.turn.s with frames := min (k.turn.s.frames + 1) 1099511627776 } } ∧ k.turn.ends = true) := Lib.hid (by
      have hc : ¬ k.turn.tick + 1 < wsum k.turn.c.ws := by rw [HTS.out.1, HTS.out.2, HFRM.out]; exact hlt
      refine ⟨?_, by unfold Kn.ends; simp [hc]⟩
      unfold Kn.ticked Kn.next
      rw [if_neg hc])
    have hf0 := HGD.out.turn.f0
    have hf1 := HGD.out.turn.f1
    have HK9 := Lib.hid (HK8.out.setTick 0 (by unfold I64; omega))
    have HG9 : Hid (Chg (KAt.own ⟨ap, q, .slice A1 k.c.ws.length c1, v2, v3, vp⟩) w (u8.setCell ⟨ap, 8, none⟩ (.int .i64 0))) := Lib.hid (HG8.out.trans_same ((chg_set u8 ap 8 (.int .i64 0)).mono (fun x e => .inl e)))
    obtain ⟨vq8, hk8, _⟩ := HK8.out.cell
    have g8 : u8.cell? ⟨ap, 8, none⟩ = some (.int .i64 (k.tick + 1)) := blk_cell hk8 8 rfl
    have z8 := blk_free hk8 8
    have g4 : u8.cell? ⟨ap, 4, none⟩ = some (.int .i64 k.turn.s.frames) := blk_cell hk8 4 rfl
    have z4 := blk_free hk8 4
    obtain ⟨f9, hf9⟩ : ∃ x, k.turn.s.frames = x := ⟨_, rfl⟩
    rw [hf9] at g4 hf0 hf1
    have HF9 := Lib.hid hf9
    have hwf : IntKind.i64.wrap (f9 + 1) = f9 + 1 := Go.IntWalk.i64_in _ (by omega)
    clear hk8 hf9
    have HKA := Lib.hid (HK9.out.setFrames (min (f9 + 1) 1099511627776) (by unfold I64; omega))
    have HGA : Hid (Chg (KAt.own ⟨ap, q, .slice A1 k.c.ws.length c1, v2, v3, vp⟩) w ((u8.setCell ⟨ap, 8, none⟩ (.int .i64 0)).setCell ⟨ap, 4, none⟩ (.int .i64 (min (f9 + 1) 1099511627776)))) := Lib.hid (HG9.out.trans_same ((chg_set _ ap 4 _).mono (fun x e => .inl e)))
    go_wp2_with fail
    go_ret2
    refine ⟨by rw [HE.out.2]; rfl, ?_, HGA.out⟩
    rw [HE.out.1, HF9.out]
    exact HKA.out
  ·rw [if_neg hj0] at hwh
   obtain ⟨i, hi⟩ : ∃ i : Nat, idxOf (idP pt) k.s.parts = i := ⟨(idxOf (idP pt) k.s.parts).toNat, by omega⟩
   obtain ⟨pp, hpp, _⟩ := idx_at hj0
   have HTu : Hid (k.turn = doesV i k.fresh) := Lib.hid (by unfold Kn.turn; rw [HPt.out, if_neg hj0, hi, Int.toNat_natCast])
   rw [hi] at hwh hpp
   rw [Int.toNat_natCast] at hpp
   have HWh := Lib.hid hwh
   have HPp := Lib.hid hpp
   clear hwh hj0 hi hpp
   go_wp2_with fail
   refine HWh.out.mono ?_
   rintro e u6 ⟨rfl, hg6⟩
   have HK6 := Lib.hid (HKX.out.non hg6)
   have HG6 := Lib.hid (HGX.out.then_non hg6)
   have hs6 := HG6.out.size
   clear hg6 s0 s1 s2 s3
   go_wp2_with fail
   refine (does_ok N u6 k.fresh ⟨ap, q, .slice A1 k.c.ws.length c1, v2, v3, vp⟩ i pp HK6.out (fun b e => Nat.lt_of_lt_of_le (hN b e) hs6) HGD.out.fresh (by rw [(fresh_s k).1]; exact HPp.out)).mono ?_
   rintro e Z ⟨rfl, hk7, hg7⟩
   have HKZ : Hid (KerB N Z k.turn ⟨ap, q, .slice A1 k.c.ws.length c1, v2, v3, vp⟩) := Lib.hid (by rw [HTu.out]; exact hk7)
   have HGZ := Lib.hid (HG6.out.trans_same hg7)
   clear hg7 hk7
   obtain ⟨vqZ, hkZ, _⟩ := HKZ.out.cell
   have g8 : Z.cell? ⟨ap, 8, none⟩ = some (.int .i64 k.tick) := blk_cell hkZ 8 (by rw [← HTS.out.2]; rfl)
   have z8 := blk_free hkZ 8
   have HK7 := Lib.hid (HKZ.out.setTick (k.tick + 1) (by unfold I64; omega))
   have HG7 : Hid (Chg (KAt.own ⟨ap, q, .slice A1 k.c.ws.length c1, v2, v3, vp⟩) w (Z.setCell ⟨ap, 8, none⟩ (.int .i64 (k.tick + 1)))) := Lib.hid (HGZ.out.trans_same ((chg_set Z ap 8 (.int .i64 (k.tick + 1))).mono (fun x e => .inl e)))
   clear hkZ
   go_wp2_with fail
   clear g8 z8
   obtain ⟨Y, hY⟩ : ∃ x, x = (Z.setCell ⟨ap, 8, none⟩ (.int .i64 (k.tick + 1))).drew := ⟨_, rfl⟩
   have hdY : Chg Non (Z.setCell ⟨ap, 8, none⟩ (.int .i64 (k.tick + 1))) Y := by rw [hY]; exact (Chg.refl Non _).drew
   have HKY := Lib.hid (HK7.out.non hdY)
   have HGY := Lib.hid (HG7.out.then_non hdY)
   obtain ⟨vqY, hkY, _⟩ := HKY.out.cell
   have g8 : Y.cell? ⟨ap, 8, none⟩ = some (.int .i64 (k.tick + 1)) := blk_cell hkY 8 rfl
   have g1 : Y.cell? ⟨ap, 1, none⟩ = some (.slice A1 k.c.ws.length c1) := blk_cell hkY 1 rfl
   have hFY := schFrame_ok (fun b => ¬ N b) A1 k.c.ws c1 Y (by
     obtain ⟨A9, c9, e, _, _, hr⟩ := HKY.out.ws
     have hcw : ({ k.turn with tick := k.tick + 1 } : Kn).c.ws = k.c.ws := by show k.turn.c.ws = _; rw [HTS.out.1]
     rw [hcw] at hr e
     injection e with e _ _
     rw [e]
     exact hr) hc1 hm1
   rw [show schFrame k.c.ws = frm from by rw [schFrame, if_pos HGD.out.sch, HFRM.out]] at hFY
   have HFY := Lib.hid hFY
   clear hkY hdY hFY
   refine wp_region_held_drew (S := Chg Non (Z.setCell ⟨ap, 8, none⟩ (.int .i64 (k.tick + 1))).drew) (by kernel_rfl) (Chg.refl _ _) (fun hHeld => ?_)
   clear hHeld
   rw [← hY]
   clear hY
   refine hp 0 43 (.pointer (some ⟨ap, 0, none⟩)) rfl (Chg.refl _ _) ?_
   refine hp 1 44 (.pointer (some ⟨ap, 0, none⟩)) rfl (Chg.refl _ _) ?_
   refine hp 2 45 (.pointer (some ⟨ap, 8, none⟩)) rfl (Chg.refl _ _) ?_
   refine hp 3 46 (.int .i64 (k.tick + 1)) rfl (Chg.refl _ _) ?_ (he := (fun W hW => by have hc := hW.cell_some g8 (fun e => e); go_simp))
   refine hp 4 47 (.pointer (some ⟨ap, 0, none⟩)) rfl (Chg.refl _ _) ?_
   refine hp 5 48 (.pointer (some ⟨ap, 0, none⟩)) rfl (Chg.refl _ _) ?_
   refine hp 6 49 (.pointer (some ⟨ap, 1, none⟩)) rfl (Chg.refl _ _) ?_
   refine hp 7 50 (.pointer (some ⟨ap, 1, none⟩)) rfl (Chg.refl _ _) ?_
   refine hp 8 51 (.slice A1 k.c.ws.length c1) rfl (Chg.refl _ _) ?_ (he := (fun W hW => by have hc := hW.cell_some g1 (fun e => e); go_simp))
   refine h_one 9 (by kernel_rfl) rfl (by kernel_rfl) ?_
   intro K hK
   go_simp
   refine (HFY.out).mono ?_
   rintro e u8 ⟨rfl, hg⟩
   have HU8 := Lib.hid hg
   clear hg
   refine hK.out _ _ HU8.out (fun _ => ?_)
   clear hK K
   try simp only [Act.put, sA, sB, sC]
   refine hp 10 53 (.bool (decide (k.tick + 1 < frm))) rfl HU8.out ?_
   refine wpAnyH_done (by kernel_rfl) ?_ _
   have HK8 := Lib.hid (HKY.out.non HU8.out)
   have HG8 := Lib.hid (HGY.out.then_non HU8.out)
   clear g8 g1 HFY
   by_cases hlt : k.tick + 1 < frm
   ·have hd : decide (k.tick + 1 < frm) = true := by simpa using hlt
    have HE : Hid (k.ticked = { k.turn with tick := k.tick + 1 } ∧ k.turn.ends = false) := Lib.hid (by
      have hc : k.turn.tick + 1 < wsum k.turn.c.ws := by rw [HTS.out.1, HTS.out.2, HFRM.out]; exact hlt
      refine ⟨?_, by unfold Kn.ends; simp [hc]⟩
      unfold Kn.ticked Kn.next
      rw [if_pos hc, HTS.out.2])
    go_wp2_with fail
    go_ret2
    refine ⟨by rw [HE.out.2]; rfl, ?_, HG8.out⟩
    rw [HE.out.1]
    exact HK8.out
   ·have hd : decide (k.tick + 1 < frm) = false := by simpa using hlt
    have HE : Hid (k.ticked = { k.turn with tick := 0, s := { k.turn.s with frames := min (k.turn.s.frames + 1) 1099511627776 } } ∧ k.turn.ends = true) := Lib.hid (by
      have hc : ¬ k.turn.tick + 1 < wsum k.turn.c.ws := by rw [HTS.out.1, HTS.out.2, HFRM.out]; exact hlt
      refine ⟨?_, by unfold Kn.ends; simp [hc]⟩
      unfold Kn.ticked Kn.next
      rw [if_neg hc])
    have hf0 := HGD.out.turn.f0
    have hf1 := HGD.out.turn.f1
    have HK9 := Lib.hid (HK8.out.setTick 0 (by unfold I64; omega))
    have HG9 : Hid (Chg (KAt.own ⟨ap, q, .slice A1 k.c.ws.length c1, v2, v3, vp⟩) w (u8.setCell ⟨ap, 8, none⟩ (.int .i64 0))) := Lib.hid (HG8.out.trans_same ((chg_set u8 ap 8 (.int .i64 0)).mono (fun x e => .inl e)))
    obtain ⟨vq8, hk8, _⟩ := HK8.out.cell
    have g8 : u8.cell? ⟨ap, 8, none⟩ = some (.int .i64 (k.tick + 1)) := blk_cell hk8 8 rfl
    have z8 := blk_free hk8 8
    have g4 : u8.cell? ⟨ap, 4, none⟩ = some (.int .i64 k.turn.s.frames) := blk_cell hk8 4 rfl
    have z4 := blk_free hk8 4
    obtain ⟨f9, hf9⟩ : ∃ x, k.turn.s.frames = x := ⟨_, rfl⟩
    rw [hf9] at g4 hf0 hf1
    have HF9 := Lib.hid hf9
    have hwf : IntKind.i64.wrap (f9 + 1) = f9 + 1 := Go.IntWalk.i64_in _ (by omega)
    clear hk8 hf9
    have HKA := Lib.hid (HK9.out.setFrames (min (f9 + 1) 1099511627776) (by unfold I64; omega))
    have HGA : Hid (Chg (KAt.own ⟨ap, q, .slice A1 k.c.ws.length c1, v2, v3, vp⟩) w ((u8.setCell ⟨ap, 8, none⟩ (.int .i64 0)).setCell ⟨ap, 4, none⟩ (.int .i64 (min (f9 + 1) 1099511627776)))) := Lib.hid (HG9.out.trans_same ((chg_set _ ap 4 _).mono (fun x e => .inl e)))
    go_wp2_with fail
    go_ret2
    refine ⟨by rw [HE.out.2]; rfl, ?_, HGA.out⟩
    rw [HE.out.1, HF9.out]
    exact HKA.out
end
section
def shCode : List UInt8 := [17, 0, 0, 0]
def shCfg : Cfg := ⟨[⟨2, 1⟩, ⟨1, 0⟩], [⟨1, 0, 16, false, shCode⟩], []⟩
def shK0 : Kn := ⟨shCfg, freshS shCfg, 1, 0, [], false⟩
def shK1 : Kn := shK0.ticked
def shK2 : Kn := shK1.ticked
def shK3 : Kn := shK2.ticked
def shK4 : Kn := shK3.ticked
theorem allApart_one (a : Rg) : allApart [a] := fun i j x y hij hx hy => by
 have h1 := (List.getElem?_eq_some_iff.1 hx).1
 have h2 := (List.getElem?_eq_some_iff.1 hy).1
 simp at h1 h2
 omega
theorem regAll_one {a : Rg} (h : a.may = true) : regAll [a] = 0 := by
 unfold regAll
 rw [if_neg (by simp [h]), if_pos (allApart_one a)]
theorem sh_fits : fitsB shCfg = true := by
 refine fits_iff.2 ⟨by decide +kernel, by decide +kernel, by decide +kernel, ?_, by decide +kernel⟩
 have h : mayRegs shCfg.ps = [⟨0, 16⟩] := by rfl
 unfold overlapBad
 rw [h, regAll_one (by decide +kernel)]
 rfl
theorem sh_is : isB (freshS shCfg) shCfg := ⟨by decide +kernel, by decide +kernel, by decide +kernel, sh_fits⟩
theorem sh_good : shK0.Good := ⟨by decide +kernel, by decide +kernel, by decide +kernel, by decide +kernel, by decide +kernel, by decide +kernel, by decide +kernel, by decide +kernel, fun q h => by simp [shK0, freshS, shCfg] at h, fun x h => by simp [shK0] at h⟩
theorem sh_ends : shK0.turn.ends = false ∧ shK1.turn.ends = false ∧ shK2.turn.ends = true ∧ shK3.turn.ends = false := by
 refine ⟨by decide +kernel, by decide +kernel, by decide +kernel, by decide +kernel⟩
theorem sh_at : shK4.tick = 1 ∧ shK4.s.frames = 1 ∧ shK4.s.parts.length = 1 ∧ shK4.inp = [] := by
 refine ⟨by decide +kernel, by decide +kernel, by decide +kernel, by decide +kernel⟩
theorem sh_part : ∃ p, shK4.s.parts[0]? = some p ∧ p.id = 1 ∧ p.pc = 0 ∧ p.st = 0 ∧ p.mem.length = 16 := by
 have h : (shK4.s.parts[0]?.map fun p => (decide (p.id = 1) && decide (p.pc = 0) && decide (p.st = 0) && decide (p.mem.length = 16))) = some true := by decide +kernel
 obtain ⟨p, hp, hq⟩ := Option.map_eq_some_iff.1 h
 simp only [Bool.and_eq_true, decide_eq_true_eq] at hq
 exact ⟨p, hp, hq.1.1.1, hq.1.1.2, hq.1.2, hq.2⟩
theorem sh_idx : idxOf (idP 1) shK4.s.parts = 0 ∧ idxOf (idP 2) shK4.s.parts = -1 := by
 refine ⟨by decide +kernel, by decide +kernel⟩
theorem sh_c : shK4.c = shCfg ∧ shK4.ver = 1 := by
 have h : ∀ k : Kn, k.ticked.c = k.c ∧ k.ticked.ver = k.ver := fun k => by
  have h1 : k.fresh.ver = k.ver := (fresh_s k).2.2.2.2
  have h2 : ∀ (i : Nat) (k : Kn), (doesV i k).ver = k.ver := fun i k => by
   unfold doesV
   split
   ·rfl
   ·split
    ·split <;> rfl
    ·rfl
  have h3 : k.turn.ver = k.ver := by
   unfold Kn.turn
   split
   ·exact h1
   ·exact (h2 _ _).trans h1
  have h4 := (turn_same k).1
  unfold Kn.ticked Kn.next
  split
  ·exact ⟨h4, h3⟩
  ·exact ⟨h4, h3⟩
 exact ⟨(h _).1.trans ((h _).1.trans ((h _).1.trans (h _).1)), (h _).2.trans ((h _).2.trans ((h _).2.trans (h _).2))⟩
end
section
open Go.RowKit
def sJmp0 : List UInt8 := [106, 109, 112, 32, 48]
theorem c_jmp0 : codeC [sJmp0] = some [17, 0, 0, 0] := by decide +kernel
theorem rd_jmp0 (w : World) (o : Obj) : RdS ((w.alloc o).alloc (.cells #[.string ⟨#[106, 109, 112, 32, 48]⟩] 9)) (some ⟨w.heap.size + 1, 0, none⟩) [sJmp0] := by
 have hb := heap_alloc_new (w.alloc o) (.cells #[.string ⟨#[106, 109, 112, 32, 48]⟩] 9)
 rw [show (w.alloc o).heap.size = w.heap.size + 1 by simp] at hb
 intro i x hx
 refine ⟨_, _, rfl, row_cell hb ?_⟩
 rcases i with _ | i
 ·simp at hx; subst hx; rfl
 ·simp at hx
theorem range_blk {w : World} {g : Nat} {cs : Array Value} {t : TypeId} {fr : Nat × Nat} (h : w.heap[g]? = some (.cells cs t fr)) (o : Nat) (vs : List Value) (hv : ∀ j v, vs[j]? = some v → cs[o + j]? = some v) : w.rangeAt g o vs := fun j v hj => blk_cell h (o + j) (hv j v hj)
theorem rd_shW {w : World} {g : Nat} {t : TypeId} (h : w.heap[g]? = some (.cells #[.int .i64 2, .int .i64 1, .int .i64 1, .int .i64 0] t (0, 0))) : RdL winV (fun _ => True) 2 w (some ⟨g, 0, none⟩) shCfg.ws := by
 intro i a ha
 have hi : i = 0 ∨ i = 1 := by have := (List.getElem?_eq_some_iff.1 ha).1; simp [shCfg] at this; omega
 rcases hi with rfl | rfl
 ·simp [shCfg] at ha
  subst ha
  exact ⟨g, 0, [.int .i64 2, .int .i64 1], rfl, trivial, rfl, range_blk h 0 _ (fun j v hj => by
    have : j = 0 ∨ j = 1 := by have := (List.getElem?_eq_some_iff.1 hj).1; simp at this; omega
    rcases this with rfl | rfl <;> simpa using hj), rfl, ⟨by decide, by decide⟩, ⟨by decide, by decide⟩⟩
 ·simp [shCfg] at ha
  subst ha
  exact ⟨g, 0, [.int .i64 1, .int .i64 0], rfl, trivial, rfl, range_blk h 2 _ (fun j v hj => by
    have : j = 0 ∨ j = 1 := by have := (List.getElem?_eq_some_iff.1 hj).1; simp at this; omega
    rcases this with rfl | rfl <;> simpa using hj), rfl, ⟨by decide, by decide⟩, ⟨by decide, by decide⟩⟩
theorem rd_shP {w : World} {g cp : Nat} {A : Option Addr} {t : TypeId} (h : w.heap[g]? = some (.cells #[.int .i64 1, .int .i64 0, .int .i64 16, .bool false, .slice A 4 cp] t (0, 0))) (hr : Rd w A [17, 0, 0, 0]) (h1 : 4 ≤ cp) (h2 : cp ≤ maxLen) : RdL (pnV (fun _ => True)) (fun _ => True) 5 w (some ⟨g, 0, none⟩) shCfg.ps := by
 intro i a ha
 have hi : i = 0 := by have := (List.getElem?_eq_some_iff.1 ha).1; simp [shCfg] at this; omega
 subst hi
 simp [shCfg] at ha
 subst ha
 exact ⟨g, 0, [.int .i64 1, .int .i64 0, .int .i64 16, .bool false, .slice A 4 cp], rfl, trivial, rfl, range_blk h 0 _ (fun j v hj => by simpa using hj), .slice A 4 cp, rfl, ⟨A, cp, rfl, h1, h2, hr, fun _ _ _ _ => trivial⟩, ⟨⟨by decide, by decide⟩, ⟨by decide, by decide⟩, ⟨by decide, by decide⟩⟩, by decide⟩
set_option maxRecDepth 100000 in
theorem shown_ok (w : World) (hE : Env w) :
  Calls Tryz.prog 47 #[] w fun e w' => ∃ A1 A2, e = .returned (.agg #[.slice A1 2 2, .slice A2 1 1, .slice none 0 0]) ∧ CfgR (fun _ => True) w' shCfg A1 A2 none 2 1 0 ∧ Chg Non w w' := by
 have HE := Lib.hid hE
 clear hE
 go_enter Tryz.func47, Tryz.ntmps47
 go_wp2_with fail
 refine (Code_ok (some ⟨w.heap.size + 1, 0, none⟩) 1 [sJmp0] _ (HE.out.non (((Chg.refl Non w).alloc _).alloc _)) (rd_jmp0 _ _) (by decide) (by decide)).mono ?_
 rintro e u ⟨hg, hret⟩
 rw [c_jmp0] at hret
 obtain ⟨A, cp, rfl, hrd, hc1, hc2⟩ := hret
 have HR := Lib.hid hrd
 have hb0 := (blk_call2 hg).1
 have HG := Lib.hid ((((Chg.refl Non w).alloc _).alloc _).then_non hg)
 have HB := Lib.hid hb0
 clear hg hrd hb0
 go_wp2_with (refine sel none (.store 26 (.tmp 0) (.tmp 15)) ?_; refine Vm_stop ?_)
 refine HoleV.mk ?_
 have hW0 : Chg Non u ((u.alloc (.cells #[.int .i64 2, .int .i64 1, .int .i64 1, .int .i64 0] 49)).alloc (.cells #[.int .i64 1, .int .i64 0, .int .i64 16, .bool false, .slice A 4 cp] 83)) := ((Chg.refl Non u).alloc _).alloc _
 have h1 := heap_alloc2_old u (.cells #[.int .i64 2, .int .i64 1, .int .i64 1, .int .i64 0] 49) (.cells #[.int .i64 1, .int .i64 0, .int .i64 16, .bool false, .slice A 4 cp] 83)
 have h2 := heap_alloc2_new u (.cells #[.int .i64 2, .int .i64 1, .int .i64 1, .int .i64 0] 49) (.cells #[.int .i64 1, .int .i64 0, .int .i64 16, .bool false, .slice A 4 cp] 83)
 have hlt := blk_lt HB.out
 refine wpList_store_rowA rfl 26 (.tmp 0) (.tmp 15) rfl w.heap.size #[.slice (some ⟨u.heap.size, 0, none⟩) 2 2, .slice (some ⟨u.heap.size + 1, 0, none⟩) 1 1, .slice none 0 0] rfl rfl 26 _ (blk_keep HB.out hW0 (fun e => e)) (by kernel_rfl) rfl (by simp [Value.oneCell']) ?_
 intro W hgW hbW
 have hb1 := blk_keep h1 hgW (fun e => by omega)
 have hb2 := blk_keep h2 hgW (fun e => by omega)
 have HG2 := Lib.hid ((HG.out.then_non hW0).then_new hgW (fun x e => by omega))
 have HR2 := Lib.hid ((HR.out.non hW0).keep hgW (fun b o e hne eb => by
   subst e
   obtain ⟨b', o', e', hl, hcl⟩ := HR.out.at_ (by simp)
   injection e' with e'
   injection e' with e1 e2 _
   subst e1
   subst e2
   have hc0 := hcl 0 (by simp)
   have eb' : b = w.heap.size := eb
   subst eb'
   rw [cell_of_row _ _ _ _ _ _ HB.out] at hc0
   rcases o with _ | _ | _ | o <;> simp at hc0))
 go_wp2_with fail
 exact bodyPost_ret (res_c Tryz.results47 _ _ w.heap.size 26 _ (0, 0) _ rfl hbW Tryz.underlying26 rfl (by kernel_rfl)) (by kernel_rfl) ⟨_, _, rfl, ⟨rd_shW hb1, rd_shP hb2 HR2.out hc1 hc2, RdL.nil _ _ _ _ _, ⟨by decide, by decide⟩, ⟨by decide, by decide⟩, ⟨by decide, by decide⟩⟩, HG2.out⟩
set_option maxRecDepth 100000 in
theorem made_okN (J : Nat → Prop) (w : World) (c : Cfg) (ver : Int) (A1 A2 A3 : Option Addr) (c1 c2 c3 : Nat) (hc : CfgR J w c A1 A2 A3 c1 c2 c3) (hfit : fitsB c = true) (his : isB (freshS c) c) (hv : I64 ver) :
  Calls Tryz.prog 33 #[.agg #[.slice A1 c.ws.length c1, .slice A2 c.ps.length c2, .slice A3 c.cs.length c3], .int .i64 ver] w fun e w' => ∃ a : KAt, e = .returned (.pointer (some ⟨a.p, 0, none⟩)) ∧ KerB (fun x => a.own x ∨ x < w.heap.size) w' ⟨c, freshS c, ver, 0, [], false⟩ a ∧ (∀ b, a.own b → w.heap.size ≤ b) ∧ Chg Non w w' := by
 obtain ⟨hl1, hl2, hl3⟩ := fits_lens hfit
 have hws : c.ws.length ≤ 12 := by
  have := (fits_iff.1 hfit).1
  simp only [windowsBad, Bool.or_eq_false_iff, Bool.not_eq_false'] at this
  exact (schMay_bd this.1).2.1
 have HC := Lib.hid hc
 have HF := Lib.hid (fun W (hg : Chg Non w W) => fresh_ok J W c A1 A2 A3 c1 c2 c3 (hc.non hg) (by omega) hfit)
 have HIs := Lib.hid his
 have hfl : (freshS c).parts.length = c.ps.length ∧ (freshS c).queues.length = c.cs.length := by simp [freshS]
 have HFl := Lib.hid hfl
 clear hc his hfit hfl
 go_enter Tryz.func33, Tryz.ntmps33
 go_wp2_with fail
 refine (HF.out _ ((Chg.refl Non w).alloc _)).mono ?_
 rintro e u ⟨b, d, rfl, hso, hg⟩
 have HB := Lib.hid (blk_call hg)
 have HG := Lib.hid (((Chg.refl Non w).alloc _).then_non hg)
 obtain ⟨Ab, cb, rfl, hb1, hb2, hb3⟩ := hso.ps.rd
 obtain ⟨Ad, cd, rfl, hd1, hd2, hd3⟩ := hso.qs.rd
 have hsta : StaV (fun _ => True) u (freshS c) (.slice Ab (freshS c).parts.length cb) (.slice Ad (freshS c).queues.length cd) := ⟨⟨Ab, cb, rfl, hb1, hb2, hb3.mono (fun _ _ => trivial) (fun _ _ _ h => h.mono (fun _ _ => trivial))⟩, ⟨Ad, cd, rfl, hd1, hd2, hd3.mono (fun _ _ => trivial) (fun _ _ _ h => h.mono (fun _ _ => trivial))⟩⟩
 have HSt := Lib.hid hsta
 clear hg hso hb1 hb2 hb3 hd1 hd2 hd3 hsta
 go_wp2_with (refine sel none (.store 30 (.tmp 5) (.tmp 12)) ?_; refine Vm_stop ?_)
 refine HoleV.mk ?_
 refine wpList_store_rowA rfl 30 (.tmp 5) (.tmp 12) rfl u.heap.size #[.int .i64 0, .slice Ab (freshS c).parts.length cb, .slice Ad (freshS c).queues.length cd] rfl rfl 30 _ (blk_new _ _) (by kernel_rfl) rfl (by simp [Value.oneCell']) ?_
 intro W hgW hbW
 have huW : Chg Non u W := ((Chg.refl Non u).alloc _).then_new hgW (fun x e => by omega)
 have HGW := Lib.hid (HG.out.then_non huW)
 have HBW := Lib.hid (blk_keep HB.out huW (fun e => e))
 have HBS := Lib.hid hbW
 have HNw := Lib.hid (new_okN (fun _ => True) J W c (freshS c) ver A1 A2 A3 c1 c2 c3 _ _ (HC.out.non HGW.out) (HSt.out.non huW) HIs.out (by show I64 0; unfold I64; omega) hv ⟨by omega, by omega, by omega⟩ ⟨by have := HFl.out.1; omega, by have := HFl.out.2; omega, fun a ha => by
   obtain ⟨x, _, rfl⟩ := List.mem_map.1 ha
   simp [freshQ]⟩)
 clear huW hgW hbW
 go_wp2_with (first
   | (refine sel (some 17) (.load 26 _) ?_; refine wpList_load_mid rfl 26 (.tmp 2) rfl w.heap.size 0 rfl [.slice A1 c.ws.length c1, .slice A2 c.ps.length c2, .slice A3 c.cs.length c3] _ (blk_range HBW.out) Tryz.underlying26 rfl (by kernel_rfl) ?_)
   | (refine sel (some 18) (.load 30 _) ?_; refine wpList_load_mid rfl 30 (.tmp 5) rfl u.heap.size 0 rfl [.int .i64 0, .slice Ab (freshS c).parts.length cb, .slice Ad (freshS c).queues.length cd] _ (blk_range HBS.out) Tryz.underlying30 rfl (by kernel_rfl) ?_))
 refine HNw.out.mono ?_
 rintro e u2 ⟨a, rfl, hk, hge, hg⟩
 have HK := Lib.hid (And.intro hk hge)
 have HG2 := Lib.hid (HGW.out.then_non hg)
 have hws2 := HGW.out.size
 clear hk hge hg
 go_wp2_with fail
 go_ret
 exact ⟨a, rfl, HK.out.1.less (fun b e => e.imp id (fun e => Nat.lt_of_lt_of_le e hws2)) (fun b e => .inl e), fun b e => Nat.le_trans hws2 (HK.out.2 b e), HG2.out⟩
theorem made_ok (J : Nat → Prop) (w : World) (c : Cfg) (ver : Int) (A1 A2 A3 : Option Addr) (c1 c2 c3 : Nat) (hc : CfgR J w c A1 A2 A3 c1 c2 c3) (hfit : fitsB c = true) (his : isB (freshS c) c) (hv : I64 ver) :
  Calls Tryz.prog 33 #[.agg #[.slice A1 c.ws.length c1, .slice A2 c.ps.length c2, .slice A3 c.cs.length c3], .int .i64 ver] w fun e w' => ∃ a : KAt, e = .returned (.pointer (some ⟨a.p, 0, none⟩)) ∧ KerB a.own w' ⟨c, freshS c, ver, 0, [], false⟩ a ∧ (∀ b, a.own b → w.heap.size ≤ b) ∧ Chg Non w w' := (made_okN J w c ver A1 A2 A3 c1 c2 c3 hc hfit his hv).mono fun e w' h => by
 obtain ⟨a, h1, h2, h3⟩ := h
 exact ⟨a, h1, h2.less (fun _ e => .inl e) (fun _ e => e), h3⟩
end
end Go.Proofs.YtmnaleaghfbclaaGreatDoor
