/- KernelApart, part 18 of 27: contracts of the functions that it reaches, and the laws that they need, merged and shortened (from my texts XHCopy, XCal, XChan). -/
import Derived.Test.YtmnaleaghfbclaaGreatDoorMgKernelApartA
import Derived.Test.YtmnaleaghfbclaaGreatDoorMgKernelApartM
import Derived.Test.YtmnaleaghfbclaaGreatDoorMgKernelApartO
namespace Go.Proofs.YtmnaleaghfbclaaGreatDoor
set_option linter.unusedVariables false
set_option linter.unusedSimpArgs false
set_option maxHeartbeats 8000000
section
open Go.RowKit
structure WldO (B : Nat) (w : World) (qs : List Qu) (inp : List UInt8) (vq vi : Value) : Prop where
 qs : OwnL (quV (Exc B vq)) B 95 6 w vq qs
 inp : BytesV (Exc B vq) w inp vi
set_option maxRecDepth 100000 in
theorem hcopy_ok (I : Nat → Prop) (w : World) (s : Sta) (f t ver : Int) (inp : List UInt8) (vq vi : Value) (hq : SlV (quV I) I 6 w s.queues vq) (hi : BytesV I w inp vi) (hql : s.queues.length ≤ 1000) (hil : inp.length ≤ 140737488351232) (hml : ∀ a ∈ s.queues, a.msgs.length ≤ 1000) :
  Calls Tryz.prog 239 #[.agg #[.int .i64 f, .int .i64 t, .int .i64 ver, vq, vi]] w fun e w' => ∃ vq' vi', e = .returned (.agg #[.int .i64 f, .int .i64 t, .int .i64 ver, vq', vi']) ∧ WldO w.heap.size w' s.queues inp vq' vi' ∧ Chg Non w w' := by
 obtain ⟨J, hJ⟩ : ∃ J : Nat → Prop, J = fun b => I b ∧ b < w.heap.size := ⟨_, rfl⟩
 have hJb : ∀ b, J b → b < w.heap.size := fun b e => by rw [hJ] at e; exact e.2
 obtain ⟨A2, c2, rfl, hc2, hm2, hr2⟩ := hq
 have HQS : Hid (RdL (quV J) J 6 w A2 s.queues) := Lib.hid (by rw [hJ]; exact hr2.bound (by omega) (fun a vs _ h => h.bound))
 obtain ⟨A3, c3, rfl, hc3, hm3, hr3, _⟩ := hi
 have HI3 := Lib.hid hr3
 unfold maxLen at hm2
 clear hJ hr2 hr3
 go_enter Tryz.func239, Tryz.ntmps239
 go_wp2_with fail
 have hv : Chg Non w ((w.alloc (.cells #[.int .i64 f, .int .i64 t, .int .i64 ver, .slice A2 s.queues.length c2, .slice A3 inp.length c3] 313)).alloc (.cells #[.int .i64 0, .int .i64 0, .int .i64 0, .slice none 0 0, .slice none 0 0] 313)) := ((Chg.refl Non w).alloc _).alloc _
 refine (SlClone_ok A3 inp c3 _ (HI3.out.non hv) (by omega)).mono ?_
 rintro e u ⟨A4, c4, rfl, q1, q2, q3, hg⟩
 obtain ⟨hb0, hb1, hlt, hgw⟩ := blk_call2 hg
 have hlt0 : w.heap.size < u.heap.size := by omega
 have HB0 := Lib.hid hb0
 have HB1 := Lib.hid hb1
 have HG := Lib.hid hgw
 have HO1 := Lib.hid (q3.mono (B' := w.heap.size + 2) (by simp))
 have f3 := blk_cell hb0 3 (v := .slice A2 s.queues.length c2) rfl
 have f4 := blk_cell hb0 4 (v := .slice A3 inp.length c3) rfl
 have fz := blk_free hb0 4
 clear q3 hg hb0 hb1 hgw hv
 go_wp2_with fail
 have hs1 := chg_set u w.heap.size 4 (.slice A4 inp.length c4)
 have HGs : Hid (Chg Non w (u.setCell ⟨w.heap.size, 4, none⟩ (.slice A4 inp.length c4))) := Lib.hid (HG.out.then_new hs1 (fun x e => by omega))
 refine (cloneQu (quV J) J quV.keepL quV_one A2 s.queues c2 _ (fun b e => by have := hJb b e; simp; omega) (HQS.out.non HGs.out (fun a vs h => quV_non _ _ _ _ HGs.out h)) (by omega)).mono ?_
 rintro e u3 ⟨v2, rfl, ho2, hg⟩
 have HB0c := Lib.hid (blk_keep (blk_set 4 (.slice A4 inp.length c4) HB0.out) hg (fun e => e))
 have HB1c := Lib.hid (blk_keep (blk_keep HB1.out hs1 (fun e => by omega)) hg (fun e => e))
 have HG3 := Lib.hid (HGs.out.then_non hg)
 have HO1c := Lib.hid ((HO1.out.keep hs1 (fun b o e e2 e3 e4 => by omega)).non hg)
 have HO2 := Lib.hid (ho2.base (B' := w.heap.size + 2) (by simp; omega))
 have f0 := blk_cell HB0c.out 3 (v := .slice A2 s.queues.length c2) rfl
 have fz' := blk_free HB0c.out 3
 have hlt3 := blk_lt HB0c.out
 have hlt3b := blk_lt HB1c.out
 obtain ⟨R2, d2, rfl, hd2, hdm2, _⟩ := ho2.rd
 have hR2 : ∀ g, (Value.slice R2 s.queues.length d2).ownBlock = some g → u.heap.size ≤ g := fun g e => by have := (ho2.ge e).1; simpa using this
 have HOi : Hid (∀ b o, A4 = some ⟨b, o, none⟩ → inp ≠ [] → b < u.heap.size) := Lib.hid (fun b o e hne => by
   obtain ⟨b', o', e', hlt, _⟩ := HO1.out.rd.at_ (List.length_pos_iff.2 hne)
   rw [e] at e'
   injection e' with e'
   injection e' with e' _ _
   subst e'
   exact hlt)
 unfold maxLen at hdm2
 clear ho2 hg hs1 f3 f4 fz
 go_wp2_with fail
 have hs3 := chg_set u3 w.heap.size 3 (.slice R2 s.queues.length d2)
 obtain ⟨v0, hv0⟩ : ∃ v, v = u3.setCell ⟨w.heap.size, 3, none⟩ (.slice R2 s.queues.length d2) := ⟨_, rfl⟩
 rw [← hv0] at hs3 ⊢
 have HBX : Hid (v0.heap[w.heap.size]? = some (.cells #[.int .i64 f, .int .i64 t, .int .i64 ver, .slice R2 s.queues.length d2, .slice A4 inp.length c4] 313 (0, 0))) := Lib.hid (by rw [hv0]; exact blk_set 3 _ HB0c.out)
 have HB1d := Lib.hid (blk_keep HB1c.out hs3 (fun e => by omega))
 have HG4 := Lib.hid (HG3.out.then_new hs3 (fun x e => by omega))
 have HO1d := Lib.hid (HO1c.out.keep hs3 (fun b o e e2 e3 e4 => by omega))
 have HQ0 := Lib.hid (HO2.out.keep hs3 (fun g e e2 => by have := (HO2.out.ge e).1; omega) (fun a vs h => h.keep hs3 (fun b e e2 => by have := hJb b e; omega)))
 have hv0s := HG4.out.size
 have hv0b := blk_lt HB1d.out
 clear hv0 hs3
 go_loopw [18] (fun iv wr => ∃ k : Nat, k ≤ s.queues.length ∧ iv = .int .i64 k ∧ Hid (OwnL (quT J (From v0.heap.size)) (w.heap.size + 2) 95 6 wr (.slice R2 s.queues.length d2) (tg k s.queues)) ∧ Hid (Chg (fun b => (Value.slice R2 s.queues.length d2).ownBlock = some b) v0 wr)) (fun iv _ => s.queues.length - (intOf iv).toNat)
 case atStart => exact ⟨0, Nat.zero_le _, rfl, Lib.hid (tg_zero HQ0.out (fun a vs h => h)), Lib.hid (Chg.refl _ _)⟩
 case round =>
  obtain ⟨k, hk, rfl, HO, HGr⟩ := hrel
  obtain ⟨wo, hwo⟩ : ∃ x, x = wr := ⟨_, rfl⟩
  subst hwo
  have HBr := Lib.hid (blk_keep HBX.out HGr.out (fun e => by have := (HQ0.out.ge e).1; omega))
  have hlw := blk_lt HBr.out
  have hsv := HGr.out.size
  by_cases hlt : k < s.queues.length
  ·obtain ⟨g, cap, cur, e1, hBg, hgb, r1, r2, r3, hat⟩ := HO.out.shape (by rw [tg_len]; omega)
   injection e1 with e1 e2 e3
   clear e2
   subst e1 e3
   have hg0 : g < v0.heap.size := (HQ0.out.ge (g := g) rfl).2
   obtain ⟨a, ha⟩ : ∃ a, s.queues[k]? = some a := ⟨_, List.getElem?_eq_getElem hlt⟩
   have hltd : decide ((k : Int) < (s.queues.length : Int)) = true := by simpa using hlt
   obtain ⟨vs, hvl, hrg, hR⟩ := hat k (a, false) (by rw [tg_get, ha]; simp)
   obtain ⟨m, rfl, ⟨A, c5, rfl, hc5, hcm5, hrm⟩, hbd, hl5⟩ := (show quV J wo a vs from hR)
   have hms : a.msgs.length ≤ 1000 := hml a (List.mem_of_getElem? ha)
   have HA := Lib.hid ha
   have HBD := Lib.hid hbd
   obtain ⟨⟨x1, x2, x3, x4, x5⟩, ms⟩ := a
   simp only at hl5 hrm hc5 hms
   unfold maxLen at hcm5
   have HRG := Lib.hid hrg
   have hm50 : wo.cell? ⟨g, k * 6 + 5, none⟩ = some (.slice A ms.length c5) := hrg 5 _ rfl
   clear hat hR r1 r2 r3 ha hrg hbd
   go_wp2_with (first
     | (refine sel (some 22) (.load 95 _) ?_; refine wpList_load_mid rfl 95 (.tmp 21) rfl g (k * 6) rfl [.int .i64 x1, .int .i64 x2, .int .i64 x3, .int .i64 x4, .int .i64 x5, .slice A ms.length c5] _ HRG.out Tryz.underlying95 rfl (by kernel_rfl) ?_)
     | (refine sel none (.store 95 (.tmp 4) (.tmp 22)) ?_
        refine wpList_store_rowA rfl 95 (.tmp 4) (.tmp 22) rfl wo.heap.size #[.int .i64 x1, .int .i64 x2, .int .i64 x3, .int .i64 x4, .int .i64 x5, .slice A ms.length c5] rfl rfl 95 _ (blk_new _ _) (by kernel_rfl) rfl (by simp [Value.oneCell']) ?_
        intro W1 hgW hbW))
   obtain ⟨v, hv⟩ : ∃ v, v = W1.drew := ⟨_, rfl⟩
   have hv0 : v.heap[wo.heap.size]? = some (.cells #[.int .i64 x1, .int .i64 x2, .int .i64 x3, .int .i64 x4, .int .i64 x5, .slice A ms.length c5] 95 (0, 0)) := by rw [hv]; exact hbW
   have hgv0 : Chg Non wo W1 := ((Chg.refl Non wo).alloc _).then_new hgW (fun x e => by omega)
   have hgv : Chg Non wo v := by rw [hv]; exact hgv0.drew
   have hvlt := blk_lt hv0
   have hbx : v.cell? ⟨w.heap.size, 3, none⟩ = some (.slice (some ⟨g, 0, none⟩) s.queues.length d2) := blk_cell (blk_keep HBr.out hgv (fun e => e)) 3 rfl
   have hne : ¬ (⟨w.heap.size, 3, none⟩ : Addr).block = g := fun e => by simp only at e; omega
   have hne2 : ¬ (⟨wo.heap.size, 5, none⟩ : Addr).block = g := fun e => by simp only at e; omega
   have hpm : v.cell? ⟨wo.heap.size, 5, none⟩ = some (.slice A ms.length c5) := blk_cell hv0 5 rfl
   have hm5 : v.cell? ⟨g, k * 6 + 5, none⟩ = some (.slice A ms.length c5) := hgv.cell_some hm50 (fun e => e)
   have HGB := Lib.hid (blk_keep hgb hgv (fun e => e))
   have HRm := Lib.hid (hrm.non hgv (fun a vs h => msgV_non _ _ _ _ hgv h))
   have HGV := Lib.hid hgv
   have HV6 := Lib.hid hv0
   refine wp_region_held_drew (S := Chg (fun b => b = g) W1.drew) (by kernel_rfl) (Chg.refl _ _) (fun hHeld => ?_)
   clear hHeld
   rw [← hv]
   clear hv hgb hgv0 hgW hbW hrm hm50 hv0 hgv
   refine hp 0 23 (.pointer (some ⟨w.heap.size, 3, none⟩)) rfl (Chg.refl _ _) ?_
   refine hp 1 24 (.slice (some ⟨g, 0, none⟩) s.queues.length d2) rfl (Chg.refl _ _) ?_ (he := (fun W hW => by have hc := hW.cell_some hbx hne; go_simp))
   refine hp 2 25 (.int .i64 k) rfl (Chg.refl _ _) ?_
   refine hp 3 26 (.pointer (some ⟨wo.heap.size, 5, none⟩)) rfl (Chg.refl _ _) ?_
   refine hp 4 27 (.slice A ms.length c5) rfl (Chg.refl _ _) ?_ (he := (fun W hW => by have hc := hW.cell_some hpm hne2; go_simp))
   refine h_one 5 (by kernel_rfl) rfl (by kernel_rfl) ?_
   intro K hK
   go_simp
   refine (cloneBy (msgV J) J msgV.keepL msgV_one A ms c5 v (fun b e => by have := hJb b e; omega) HRm.out (by omega)).mono ?_
   rintro e u1 ⟨vm, rfl, hom, hgm⟩
   have HOM := Lib.hid hom
   have HU := Lib.hid hgm
   have HUg := Lib.hid (Chg.of_non hgm : Chg (fun b => b = g) v u1)
   have hm6 : u1.cell? ⟨g, k * 6 + 5, none⟩ = some (.slice A ms.length c5) := hgm.cell_some hm5 (fun e => e)
   have hf6 : u1.frozen? ⟨g, k * 6 + 5, none⟩ = false := by have h := blk_keep HGB.out hgm (fun e => e); exact blk_free h _
   obtain ⟨RM, dm, rfl, hdm, hdmm, _⟩ := hom.rd
   clear hom hgm
   refine hK.out _ _ HUg.out (fun _ => ?_)
   clear hK K
   try simp only [Act.put, sA, sB, sC]
   refine hp 6 29 (.pointer (some ⟨g, k * 6, none⟩)) rfl HUg.out ?_
   refine hp 7 30 (.pointer (some ⟨g, k * 6 + 5, none⟩)) rfl HUg.out ?_
   refine h_one 8 (by kernel_rfl) rfl (by kernel_rfl) ?_
   intro K hK
   go_simp
   refine hK.out _ _ (HUg.out.trans_same (chg_set u1 g (k * 6 + 5) (.slice RM ms.length dm))) (fun _ => ?_)
   clear hK K
   try simp only [Act.put, sA, sB, sC]
   refine wpAnyH_done (by kernel_rfl) ?_ _
   have hst := chg_set u1 g (k * 6 + 5) (.slice RM ms.length dm)
   have HU2 := Lib.hid (HGV.out.then_non HU.out)
   have hsu := HU2.out.size
   have hvu := HU.out.size
   obtain ⟨w3, hw3⟩ : ∃ x, x = u1.setCell ⟨g, k * 6 + 5, none⟩ (.slice RM ms.length dm) := ⟨_, rfl⟩
   rw [← hw3] at hst ⊢
   have HOF : Hid (OwnL (fluxR (quT J (fun b => v0.heap.size ≤ b ∧ b < wo.heap.size)) (fun vs => vs = [.int .i64 x1, .int .i64 x2, .int .i64 x3, .int .i64 x4, .int .i64 x5, .slice RM ms.length dm])) (w.heap.size + 2) 95 6 w3 (.slice (some ⟨g, 0, none⟩) s.queues.length d2) (((tg k s.queues).map fun x => (x, false)).set k ((⟨⟨x1, x2, x3, x4, x5⟩, ms⟩, false), true))) := Lib.hid (by
     rw [hw3] at hst ⊢
     refine OwnL.cell (R := fluxR (quT J (fun b => v0.heap.size ≤ b ∧ b < wo.heap.size)) (fun vs => vs = [.int .i64 x1, .int .i64 x2, .int .i64 x3, .int .i64 x4, .int .i64 x5, .slice RM ms.length dm])) (j := 5) (a := ((⟨⟨x1, x2, x3, x4, x5⟩, ms⟩, false), false)) (OwnL.non (flux_in _ (HO.out.mono (fun a vs h => h.bound.mono (fun b e => e)))) HU2.out ?_) (by rw [List.getElem?_map, tg_get, HA.out]; simp) (by omega) ?_ ?_
     · intro x vs h
       obtain ⟨x, t⟩ := x
       cases t with
       | true => exact h
       | false => exact quT.keep (show quT J _ wo x vs from h) HU2.out (fun _ _ e => e) (fun _ _ e => e)
     · intro x vs h
       obtain ⟨x, t⟩ := x
       cases t with
       | true => exact h
       | false => exact quT.keep (show quT J _ u1 x vs from h) hst (fun b e e2 => by have := hJb b e; omega) (fun b e e2 => by omega)
     · intro vs hvl h
       obtain ⟨m, rfl, _⟩ := (show quV J u1 ⟨⟨x1, x2, x3, x4, x5⟩, ms⟩ vs from h)
       rfl)
   have HM3 := Lib.hid (HOM.out.keep hst (fun q e e2 => by have := (HOM.out.ge e).1; omega) (fun a vs h => h.keep hst (fun b e e2 => by have := hJb b e; omega)))
   have HB3 := Lib.hid (blk_keep (blk_keep HBr.out HU2.out (fun e => e)) hst (fun e => hne e))
   have HB36 := Lib.hid (blk_keep (blk_keep HV6.out HU.out (fun e => e)) hst (fun e => hne2 e))
   have HR3 := Lib.hid ((HRm.out.non HU.out (fun a vs h => msgV_non _ _ _ _ HU.out h)).keep hst (fun b e e2 => by have := hJb b e; omega) (fun a vs _ h => h.keep hst (fun b e e2 => by have := hJb b e; omega)))
   have HG3 : Hid (Chg (fun b => b = g) wo w3) := Lib.hid ((HU2.out.of_non : Chg (fun b => b = g) wo u1).trans_same hst)
   have hpq3 : w3.cell? ⟨g, k * 6 + 5, none⟩ = some (.slice RM ms.length dm) := by
    rw [hw3]
    exact blk_cell (blk_set (k * 6 + 5) _ (blk_keep HGB.out HU.out (fun e => e))) (k * 6 + 5) (by rw [Array.getElem?_setIfInBounds_self_of_lt]; have := hm6; rw [cell_of_row _ _ _ _ _ _ (blk_keep HGB.out HU.out (fun e => e))] at this; exact (Array.getElem?_eq_some_iff.1 this).1)
   have hp3 := blk_cell HB36.out 5 (v := .slice A ms.length c5) rfl
   have hw3s : u1.heap.size ≤ w3.heap.size := hst.size
   have HP3 := Lib.hid hpq3
   clear hw3 hst HUg hm5 hm6 hf6 hbx hpm hpq3
   go_wp2_with fail
   go_loopw [34] (fun iv wr => ∃ j : Nat, j ≤ ms.length ∧ iv = .int .i64 j ∧ Hid (OwnL (msgT J (From w3.heap.size)) v.heap.size 50 1 wr (.slice RM ms.length dm) (tg j ms)) ∧ Hid (Chg (fun b => (Value.slice RM ms.length dm).ownBlock = some b) w3 wr)) (fun iv _ => ms.length - (intOf iv).toNat)
   case atStart => exact ⟨0, Nat.zero_le _, rfl, Lib.hid (tg_zero HM3.out (fun a vs h => h)), Lib.hid (Chg.refl _ _)⟩
   case round =>
    obtain ⟨j, hj, rfl, HOm, HGm⟩ := hrel
    have hgo : ∀ q, (Value.slice RM ms.length dm).ownBlock = some q → v.heap.size ≤ q ∧ q < w3.heap.size := fun q e => HM3.out.ge e
    have hs3 := HGm.out.size
    by_cases hlj : j < ms.length
    ·obtain ⟨gm, cap, cur, e1, hBm, hgbm, r1, r2, r3, hat⟩ := HOm.out.shape (by rw [tg_len]; omega)
     injection e1 with e1 e2 e3
     clear e2
     subst e1 e3
     have hgm := hgo gm rfl
     obtain ⟨l7, hl7⟩ : ∃ a, ms[j]? = some a := ⟨_, List.getElem?_eq_getElem hlj⟩
     have hltj : decide ((j : Int) < (ms.length : Int)) = true := by simpa using hlj
     obtain ⟨bm, om, vs7, rfl, hJm, hvl7, hrg7, h7, rfl, ⟨A7, c7, rfl, hc7, hcm7, hr7, _⟩, hlen7⟩ := (HR3.out.keep HGm.out (fun b e e2 => by have := hJb b e; have := (hgo b e2).1; omega) (fun a vs _ h => h.keep HGm.out (fun b e e2 => by have := hJb b e; have := (hgo b e2).1; omega))) j l7 hl7
     have hq7 : wr.cell? ⟨bm, om + j, none⟩ = some (.slice A7 l7.length c7) := by have := hrg7 0 _ rfl; simpa using this
     obtain ⟨vs8, hvl8, hrg8, hR8⟩ := hat j (l7, false) (by rw [tg_get, hl7]; simp)
     obtain ⟨h8, rfl, _⟩ := (show msgV J wr l7 vs8 from hR8)
     have hm7 : wr.cell? ⟨gm, j, none⟩ = some h8 := by have := hrg8 0 _ rfl; simpa using this
     have HTS := Lib.hid (tg_set hl7)
     have HL7 := Lib.hid hl7
     clear hat hR8 r1 r2 r3 hl7 hrg8 hrg7
     go_wp2_with fail
     obtain ⟨v', hv'⟩ : ∃ x, x = wr.drew := ⟨_, rfl⟩
     have hgv' : Chg Non wr v' := by rw [hv']; exact (Chg.refl _ _).drew
     have hbx : v'.cell? ⟨w.heap.size, 3, none⟩ = some (.slice (some ⟨g, 0, none⟩) s.queues.length d2) := blk_cell (blk_keep (blk_keep HB3.out HGm.out (fun e => by have := (hgo _ e).1; omega)) hgv' (fun e => e)) 3 rfl
     have hneb : ¬ (⟨w.heap.size, 3, none⟩ : Addr).block = gm := fun e => by simp only at e; omega
     have hneq : ¬ (⟨g, k * 6 + 5, none⟩ : Addr).block = gm := fun e => by simp only at e; omega
     have hpq : v'.cell? ⟨g, k * 6 + 5, none⟩ = some (.slice (some ⟨gm, 0, none⟩) ms.length dm) := hgv'.cell_some (HGm.out.cell_some HP3.out (fun e => by have := (hgo _ e).1; simp only at this; omega)) (fun e => e)
     have HGB7 := Lib.hid (blk_keep hgbm hgv' (fun e => e))
     have HR7 := Lib.hid (hr7.non hgv')
     have hm7 : v'.cell? ⟨gm, j, none⟩ = some h8 := hgv'.cell_some hm7 (fun e => e)
     have HGV7 := Lib.hid hgv'
     have hv's := hgv'.size
     refine wp_region_held_drew (S := Chg (fun b => b = gm) wr.drew) (by kernel_rfl) (Chg.refl _ _) (fun hHeld => ?_)
     clear hHeld
     rw [← hv']
     clear hv' hgbm hr7 hgv' hq7
     refine hp 0 39 (.pointer (some ⟨w.heap.size, 3, none⟩)) rfl (Chg.refl _ _) ?_
     refine hp 1 40 (.slice (some ⟨g, 0, none⟩) s.queues.length d2) rfl (Chg.refl _ _) ?_ (he := (fun W hW => by have hc := hW.cell_some hbx hneb; go_simp))
     refine hp 2 41 (.int .i64 k) rfl (Chg.refl _ _) ?_
     refine hp 3 42 (.pointer (some ⟨g, k * 6, none⟩)) rfl (Chg.refl _ _) ?_
     refine hp 4 43 (.pointer (some ⟨g, k * 6 + 5, none⟩)) rfl (Chg.refl _ _) ?_
     refine hp 5 44 (.slice (some ⟨gm, 0, none⟩) ms.length dm) rfl (Chg.refl _ _) ?_ (he := (fun W hW => by have hc := hW.cell_some hpq hneq; go_simp))
     refine hp 6 45 (.int .i64 j) rfl (Chg.refl _ _) ?_
     refine hp 7 46 (.slice A7 l7.length c7) rfl (Chg.refl _ _) ?_
     refine h_one 8 (by kernel_rfl) rfl (by kernel_rfl) ?_
     intro K hK
     go_simp
     refine (SlClone_ok A7 l7 c7 v' HR7.out (by omega)).mono ?_
     rintro e u2 ⟨A8, c8, rfl, q1, q2, q3, q4⟩
     have HQ8 := Lib.hid q3
     have HU8 := Lib.hid q4
     have HUg8 := Lib.hid (Chg.of_non q4 : Chg (fun b => b = gm) v' u2)
     have hm8 : u2.cell? ⟨gm, j, none⟩ = some h8 := q4.cell_some hm7 (fun e => e)
     have hf8 : u2.frozen? ⟨gm, j, none⟩ = false := by have h := blk_keep HGB7.out q4 (fun e => e); exact blk_free h _
     clear q3 q4
     refine hK.out _ _ HUg8.out (fun _ => ?_)
     clear hK K
     try simp only [Act.put, sA, sB, sC]
     refine hp 9 48 (.pointer (some ⟨gm, j, none⟩)) rfl HUg8.out ?_
     refine h_one 10 (by kernel_rfl) rfl (by kernel_rfl) ?_
     intro K hK
     go_simp
     refine hK.out _ _ (HUg8.out.trans_same (chg_set u2 gm j (.slice A8 l7.length c8))) (fun _ => ?_)
     clear hK K
     try simp only [Act.put, sA, sB, sC]
     refine wpAnyH_done (by kernel_rfl) ?_ _
     have hst := chg_set u2 gm j (.slice A8 l7.length c8)
     have HU9 := Lib.hid (HGV7.out.then_non HU8.out)
     have hsu := HU9.out.size
     have HOn : Hid (OwnL (msgT J (From w3.heap.size)) v.heap.size 50 1 (u2.setCell ⟨gm, j, none⟩ (.slice A8 l7.length c8)) (.slice (some ⟨gm, 0, none⟩) ms.length dm) (tg (j + 1) ms)) := Lib.hid (by
       rw [← HTS.out]
       have ej : j * 1 + 0 = j := by omega
       have := OwnL.cell (R' := msgT J (From w3.heap.size)) (i := j) (j := 0) (a := (l7, false)) (a' := (l7, true)) (u := .slice A8 l7.length c8) (HOm.out.non HU9.out (fun a vs h => h.keep HU9.out (fun _ _ e => e) (fun _ _ e => e))) (by rw [tg_get, HL7.out]; simp) (by omega) (by
         rw [ej]
         exact fun a vs h => h.keep hst (fun b e e2 => by have := hJb b e; omega) (fun b e e2 => by have : w3.heap.size ≤ b := e; omega)) (by
         rw [ej]
         intro vs hvl h
         obtain ⟨m, rfl, _⟩ := (show msgV J u2 l7 vs from h)
         exact ⟨_, rfl, (own_bytes ((HQ8.out.mono (by omega)).keep hst (fun b o e1 e2 e3 e4 => by omega)) q1 q2 : BytesV (From w3.heap.size) _ _ _), hlen7⟩)
       rw [ej] at this
       exact this)
     have HGn : Hid (Chg (fun b => (Value.slice (some ⟨gm, 0, none⟩) ms.length dm).ownBlock = some b) w3 (u2.setCell ⟨gm, j, none⟩ (.slice A8 l7.length c8))) := Lib.hid ((HGm.out.then_non HU9.out).trans_same (hst.mono (fun x e => by subst e; rfl)))
     clear HUg8 hst hm7 hm8 hf8 hbx hpq
     go_wp2_with fail
     exact ⟨⟨j + 1, by omega, by simp, HOn, HGn⟩, by simp [intOf]; omega⟩
    ·obtain rfl : j = ms.length := by omega
     have hltj : decide ((ms.length : Int) < (ms.length : Int)) = false := by simp
     have HOM9 := Lib.hid (tg_all (R' := msgV (From w3.heap.size)) HOm.out (fun a vs h => h))
     have HOE : Hid (OwnL (quT J (From v0.heap.size)) (w.heap.size + 2) 95 6 wr (.slice (some ⟨g, 0, none⟩) s.queues.length d2) (tg (k + 1) s.queues)) := Lib.hid (by
       refine flux_out HA.out (HOF.out.keep HGm.out (fun q e e2 => by
         have h1 := (hgo _ e2).1
         have : g = q := by simpa [Value.ownBlock] using e
         omega) ?_) (fun x vs h => h.mono (fun b e => e.1)) ?_
       · intro x vs h
         obtain ⟨x, t⟩ := x
         cases t with
         | true => exact h
         | false => exact quT.keep (show quT J _ w3 x vs from h) HGm.out (fun b e e2 => by have := hJb b e; have := (hgo b e2).1; omega) (fun b e e2 => by have := (hgo b e2).1; have := e.2; omega)
       · rintro vs rfl
         obtain ⟨A9, c9, e9, h91, h92, h93⟩ := HOM9.out.rd
         exact ⟨_, rfl, ⟨A9, c9, e9, h91, h92, h93.mono (fun b e => by have h1 := (hgo b e).1; exact Nat.le_trans (by omega) h1) (fun a vs _ h => h.mono (fun b e => by have : w3.heap.size ≤ b := e; exact Nat.le_trans (by omega) this))⟩, HBD.out, hl5⟩)
     have HGE : Hid (Chg (fun b => (Value.slice (some ⟨g, 0, none⟩) s.queues.length d2).ownBlock = some b) v0 wr) := Lib.hid ((HGr.out.trans_same (HG3.out.mono (fun x e => by subst e; rfl))).then_new HGm.out (fun x e => by have := (hgo x e).1; omega))
     go_wp2_with fail
     exact ⟨⟨k + 1, by omega, by simp, HOE, HGE⟩, by simp [intOf]; omega⟩
  ·obtain rfl : k = s.queues.length := by omega
   have hltd : decide ((s.queues.length : Int) < (s.queues.length : Int)) = false := by simp
   have HBe := Lib.hid (blk_keep HB1d.out HGr.out (fun e => by have := (HQ0.out.ge e).1; omega))
   have hgo2 : ∀ g, (Value.slice R2 s.queues.length d2).ownBlock = some g → w.heap.size + 2 ≤ g ∧ g < v0.heap.size := fun g e => HQ0.out.ge e
   have y0 := blk_cell HBr.out 0 (v := .int .i64 f) rfl
   have y1 := blk_cell HBr.out 1 (v := .int .i64 t) rfl
   have y2 := blk_cell HBr.out 2 (v := .int .i64 ver) rfl
   have y3 := blk_cell HBr.out 3 (v := .slice R2 s.queues.length d2) rfl
   have y4 := blk_cell HBr.out 4 (v := .slice A4 inp.length c4) rfl
   go_wp2_with (refine sel none (.store 313 (.tmp 2) (.tmp 51)) ?_
                refine wpList_store_rowA rfl 313 (.tmp 2) (.tmp 51) rfl (w.heap.size + 1) #[.int .i64 f, .int .i64 t, .int .i64 ver, .slice R2 s.queues.length d2, .slice A4 inp.length c4] rfl rfl 313 _ HBe.out (by kernel_rfl) rfl (by simp [Value.oneCell']) ?_
                intro W hgW hbW)
   have hA : Chg (fun b => b = w.heap.size + 1 ∨ (Value.slice R2 s.queues.length d2).ownBlock = some b) v0 W := (HGr.out.mono (fun x e => .inr e)).trans_same (hgW.mono (fun x e => .inl e))
   refine bodyPost_ret (res_c Tryz.results239 _ _ (w.heap.size + 1) 313 _ (0, 0) _ rfl hbW Tryz.underlying313 rfl (by kernel_rfl)) (by kernel_rfl) ⟨_, _, rfl, ⟨?_, ?_⟩, HG4.out.then_new hA (fun x e => ?_)⟩
   ·refine OwnL.mono (R := quV (From v0.heap.size)) ((OwnL.keep (tg_all HO.out (fun a vs h => h)) hgW (fun g e e2 => by have := (hgo2 g e).1; omega) (fun a vs h => h.keep hgW (fun b e e2 => by have : v0.heap.size ≤ b := e; omega))).base (by omega)) (fun a vs h => h.mono (fun b e => ⟨?_, fun e2 => ?_⟩))
    ·have : v0.heap.size ≤ b := e
     omega
    ·have : v0.heap.size ≤ b := e
     have := (hgo2 b e2).2
     omega
   ·have hOW : Own (w.heap.size + 2) W A4 inp := HO1d.out.keep hA (fun b o e1 e2 e3 e4 => by
      have := HOi.out b o e1 e3
      rcases e4 with e4 | e4
      · omega
      · have := hR2 b e4; omega)
    refine ⟨A4, _, rfl, q1, q2, hOW.rd, fun b o e1 e3 => ⟨?_, fun e4 => ?_⟩⟩
    ·subst e1
     have := hOW.ge e3
     omega
    ·have := HOi.out b o e1 e3
     have := hR2 b e4
     omega
   ·rcases e with e | e
    ·omega
    ·have := (hgo2 x e).1; omega
end
section
open Go.RowKit
def callerL (p : Pt) (m : Value) (wl : Wld) (vq vi : Value) (y : Bool) : List Value := partL p m ++ [.int .i64 wl.frames, .int .i64 wl.tick, .int .i64 wl.ver, vq, vi, .bool y]
def callerC (p : Pt) (m : Value) (wl : Wld) (vq vi : Value) (y : Bool) : Array Value := (callerL p m wl vq vi y).toArray
def calK (B g : Nat) (vq : Value) : Nat → Prop := fun b => B ≤ b ∧ b ≠ g ∧ vq.ownBlock ≠ some b
structure CalX (B : Nat) (W : World) (g : Nat) (p : Pt) (wl : Wld) (y : Bool) (m vq vi : Value) : Prop where
 blk : W.heap[g]? = some (.cells (callerC p m wl vq vi y) 329 (0, 0))
 bd : p.Bd
 mem : BytesV (calK B g vq) W p.mem m
 qs : OwnL (quV (calK B g vq)) B 95 6 W vq wl.qs
 inp : BytesV (calK B g vq) W wl.inp vi
 hB : B ≤ g
 hne : vq.ownBlock ≠ some g
theorem partL_len {p : Pt} (h : p.r.length = 8) (m : Value) : (partL p m).length = 14 := by simp [partL, h]
theorem callerC_lo {p : Pt} (h : p.r.length = 8) (m : Value) (wl : Wld) (vq vi : Value) (y : Bool) (i : Nat) (hi : i < 14) : (callerC p m wl vq vi y)[i]? = (partC p m)[i]? := by
 simp only [callerC, callerL, partC, List.getElem?_toArray]
 rw [List.getElem?_append_left (by rw [partL_len h]; exact hi)]
theorem callerC_hi {p : Pt} (h : p.r.length = 8) (m : Value) (wl : Wld) (vq vi : Value) (y : Bool) (i : Nat) : (callerC p m wl vq vi y)[14 + i]? = [Value.int .i64 wl.frames, .int .i64 wl.tick, .int .i64 wl.ver, vq, vi, .bool y][i]? := by
 simp only [callerC, callerL, List.getElem?_toArray]
 rw [List.getElem?_append_right (by rw [partL_len h]; omega), partL_len h, Nat.add_sub_cancel_left]
theorem callerC_setLo {p : Pt} (h : p.r.length = 8) (m : Value) (wl : Wld) (vq vi : Value) (y : Bool) (i : Nat) (hi : i < 14) (u : Value) {p' : Pt} {m' : Value} (he : (partC p m).setIfInBounds i u = partC p' m') : (callerC p m wl vq vi y).setIfInBounds i u = callerC p' m' wl vq vi y := by
 have he' : (partL p m).set i u = partL p' m' := by
  have := congrArg Array.toList he
  simpa [partC] using this
 simp only [callerC, callerL, List.setIfInBounds_toArray]
 rw [List.set_append_left _ _ (by rw [partL_len h]; exact hi), he']
theorem callerC_setHi {p : Pt} (h : p.r.length = 8) (m : Value) (wl wl' : Wld) (vq vi vq' vi' : Value) (y y' : Bool) (i : Nat) (u : Value) (he : [Value.int .i64 wl.frames, .int .i64 wl.tick, .int .i64 wl.ver, vq, vi, .bool y].set i u = [Value.int .i64 wl'.frames, .int .i64 wl'.tick, .int .i64 wl'.ver, vq', vi', .bool y']) :
  (callerC p m wl vq vi y).setIfInBounds (14 + i) u = callerC p m wl' vq' vi' y' := by
 simp only [callerC, callerL, List.setIfInBounds_toArray]
 rw [List.set_append_right _ _ (by rw [partL_len h]; omega), partL_len h, Nat.add_sub_cancel_left, he]
theorem Pt.Bd.setReg {p : Pt} (h : p.Bd) (a v : Nat) (hv : v < 4294967296) : (p.set a v).Bd := by
 refine ⟨by show (p.r.set a v).length = 8; rw [List.length_set]; exact h.r8, fun i => ?_, h.pcb, h.stb, h.idb, h.sizeb⟩
 show (p.r.set a v).getD i 0 < _
 rw [List.getD_eq_getElem?_getD, List.getElem?_set]
 have := h.rb i
 rw [List.getD_eq_getElem?_getD] at this
 split
 ·split
  ·exact hv
  ·simp
 ·exact this
namespace CalX
variable {B : Nat} {W W' : World} {g : Nat} {p : Pt} {wl : Wld} {y : Bool} {m vq vi : Value}
theorem lt (h : CalX B W g p wl y m vq vi) : g < W.heap.size := (Array.getElem?_eq_some_iff.1 h.blk).1
theorem r8 (h : CalX B W g p wl y m vq vi) : p.r.length = 8 := h.bd.r8
theorem free (h : CalX B W g p wl y m vq vi) (i : Nat) : W.frozen? ⟨g, i, none⟩ = false := blk_free h.blk i
theorem cid (h : CalX B W g p wl y m vq vi) : W.cell? ⟨g, 0, none⟩ = some (.int .i64 p.id) := blk_cell h.blk 0 (by rw [callerC_lo h.r8 _ _ _ _ _ 0 (by omega)]; rfl)
theorem creg (h : CalX B W g p wl y m vq vi) (a : Nat) (ha : a < 8) : W.cell? ⟨g, 3 + a, none⟩ = some (.int .u32 (p.g a : Nat)) := blk_cell h.blk (3 + a) (by rw [callerC_lo h.r8 _ _ _ _ _ _ (by omega)]; exact partC_reg h.r8 m a ha)
theorem cst (h : CalX B W g p wl y m vq vi) : W.cell? ⟨g, 12, none⟩ = some (.int .u8 (p.st : Nat)) := blk_cell h.blk 12 (by rw [callerC_lo h.r8 _ _ _ _ _ _ (by omega)]; exact partC_end h.r8 m 1 (by omega))
theorem cmem (h : CalX B W g p wl y m vq vi) : W.cell? ⟨g, 13, none⟩ = some m := blk_cell h.blk 13 (by rw [callerC_lo h.r8 _ _ _ _ _ _ (by omega)]; exact partC_end h.r8 m 2 (by omega))
theorem chi (h : CalX B W g p wl y m vq vi) (i : Nat) {u : Value} (hu : [Value.int .i64 wl.frames, .int .i64 wl.tick, .int .i64 wl.ver, vq, vi, .bool y][i]? = some u) : W.cell? ⟨g, 14 + i, none⟩ = some u := blk_cell h.blk (14 + i) (by rw [callerC_hi h.r8]; exact hu)
theorem non (h : CalX B W g p wl y m vq vi) (hg : Chg Non W W') : CalX B W' g p wl y m vq vi :=
 ⟨blk_keep h.blk hg (fun e => e), h.bd, h.mem.non hg, h.qs.non hg (fun _ _ h => h.keep hg (fun _ _ e => e)), h.inp.non hg, h.hB, h.hne⟩
theorem set (h : CalX B W g p wl y m vq vi) (i : Nat) (u : Value) {p' : Pt} {m' : Value} {wl' : Wld} {vi' : Value} {y' : Bool} (he : (callerC p m wl vq vi y).setIfInBounds i u = callerC p' m' wl' vq vi' y') (hb : p'.Bd) (hm : BytesV (calK B g vq) W p'.mem m') (hq : wl'.qs = wl.qs) (hi : BytesV (calK B g vq) W wl'.inp vi') :
  CalX B (W.setCell ⟨g, i, none⟩ u) g p' wl' y' m' vq vi' := by
 have hg := chg_set W g i u
 have hk : ∀ b, calK B g vq b → ¬ b = g := fun b e => e.2.1
 refine ⟨?_, hb, hm.keep hg hk, ?_, hi.keep hg hk, h.hB, h.hne⟩
 ·rw [← he]
  exact blk_set i u h.blk
 ·rw [hq]
  exact h.qs.keep hg (fun g' e e2 => h.hne (by rw [e, e2])) (fun _ _ h => h.keep hg hk)
theorem setR (h : CalX B W g p wl y m vq vi) (a v : Nat) (ha : a < 8) (hv : v < 4294967296) : CalX B (W.setCell ⟨g, 3 + a, none⟩ (.int .u32 (v : Nat))) g (p.set a v) wl y m vq vi :=
 h.set (3 + a) _ (callerC_setLo h.r8 _ _ _ _ _ _ (by omega) _ (part_setR h.r8 m a v ha)) (h.bd.setReg a v hv) h.mem rfl h.inp
theorem setSt (h : CalX B W g p wl y m vq vi) (v : Nat) (hv : v < 256) : CalX B (W.setCell ⟨g, 12, none⟩ (.int .u8 (v : Nat))) g { p with st := v } wl y m vq vi :=
 h.set 12 _ (callerC_setLo h.r8 _ _ _ _ _ _ (by omega) _ (part_set12 h.r8 m v)) ⟨h.bd.r8, h.bd.rb, h.bd.pcb, hv, h.bd.idb, h.bd.sizeb⟩ h.mem rfl h.inp
theorem setMem (h : CalX B W g p wl y m vq vi) (l : List UInt8) (m' : Value) (hm : BytesV (calK B g vq) W l m') : CalX B (W.setCell ⟨g, 13, none⟩ m') g { p with mem := l } wl y m' vq vi :=
 h.set 13 _ (callerC_setLo h.r8 _ _ _ _ _ _ (by omega) _ (part_set13 h.r8 m m')) ⟨h.bd.r8, h.bd.rb, h.bd.pcb, h.bd.stb, h.bd.idb, h.bd.sizeb⟩ hm rfl h.inp
theorem setInp (h : CalX B W g p wl y m vq vi) (l : List UInt8) (vi' : Value) (hm : BytesV (calK B g vq) W l vi') : CalX B (W.setCell ⟨g, 18, none⟩ vi') g p { wl with inp := l } y m vq vi' :=
 h.set 18 _ (callerC_setHi h.r8 m wl { wl with inp := l } vq vi vq vi' y y 4 vi' rfl) h.bd h.mem rfl hm
theorem setY (h : CalX B W g p wl y m vq vi) (b : Bool) : CalX B (W.setCell ⟨g, 19, none⟩ (.bool b)) g p wl b m vq vi :=
 h.set 19 _ (callerC_setHi h.r8 m wl wl vq vi vq vi y b 5 (.bool b) rfl) h.bd h.mem rfl h.inp
end CalX
def CalP (B g : Nat) (p' : Pt) (wl' : Wld) (y' : Bool) (r : Bool) (W : World) (e : Ending) (W' : World) : Prop :=
 e = .returned (.bool r) ∧ (∃ m vq vi, CalX B W' g p' wl' y' m vq vi) ∧ Chg (From B) W W'
theorem chg_own {W : World} {B g i : Nat} {u : Value} (h : B ≤ g) : Chg (From B) W (W.setCell ⟨g, i, none⟩ u) := (chg_set W g i u).mono (fun x e => by show B ≤ x; omega)
set_option maxRecDepth 100000 in
theorem cYield_ok (B : Nat) (W : World) (g : Nat) (p : Pt) (wl : Wld) (y : Bool) (m vq vi : Value) (h : CalX B W g p wl y m vq vi) :
  Calls Tryz.prog 258 #[.pointer (some ⟨g, 0, none⟩)] W (CalP B g p wl true true W) := by
 have c19 := h.chi 5 (u := .bool y) rfl
 have z := h.free 19
 have HX := Lib.hid (h.setY true)
 have hB := h.hB
 clear h
 go_enter Tryz.func258, Tryz.ntmps258
 go_wp2_with fail
 go_ret
 exact ⟨rfl, ⟨_, _, _, HX.out⟩, chg_own hB⟩
set_option maxRecDepth 100000 in
theorem cHalt_ok (B : Nat) (W : World) (g : Nat) (p : Pt) (wl : Wld) (y : Bool) (m vq vi : Value) (h : CalX B W g p wl y m vq vi) :
  Calls Tryz.prog 264 #[.pointer (some ⟨g, 0, none⟩)] W (CalP B g { p with st := 1 } wl y true W) := by
 have c19 := h.cst
 have z := h.free 12
 have HX := Lib.hid (h.setSt 1 (by omega))
 have hB := h.hB
 clear h
 go_enter Tryz.func264, Tryz.ntmps264
 go_wp2_with fail
 go_ret
 exact ⟨rfl, ⟨_, _, _, HX.out⟩, chg_own hB⟩
end
section
open Go.RowKit
theorem res_tct {P : Program} {fn : Func} {p q q0 : Tmp} {ty : TypeId} (h : fn.results = #[.tmp q0, .cell p ty, .tmp q]) (tmps : Array Value) (w : World) (g : Nat) (t : TypeId) (cs : Array Value) (fr : Nat × Nat) (d : TypeDesc) (v v0 : Value)
  (hp : tmps.getD p undef = .pointer (some ⟨g, 0, none⟩)) (hv0 : tmps.getD q0 undef = v0) (hv : tmps.getD q undef = v) (hg : w.heap[g]? = some (.cells cs t fr))
  (hu : P.underlying ty = some d) (hd : (match d with | .struct _ | .array _ _ => true | _ => false) = true) (hi : (P.info? ty).map (·.size) = some cs.size) :
  (results fn tmps).run P w = .ok (.tuple #[v0, .agg cs, v]) w := by
 have hp' : tmps[p]?.getD undef = .pointer (some ⟨g, 0, none⟩) := by simpa using hp
 have hv' : tmps[q]?.getD undef = v := by simpa using hv
 have hv0' : tmps[q0]?.getD undef = v0 := by simpa using hv0
 simp [results, h, hp', hv', hv0', asAddr, run_loadVar_row w g t ty cs fr d hg hu hd hi]
theorem res_cctt {P : Program} {fn : Func} {p p2 q q2 : Tmp} {ty ty2 : TypeId} (h : fn.results = #[.cell p ty, .cell p2 ty2, .tmp q, .tmp q2]) (tmps : Array Value) (w : World) (g g2 : Nat) (t t2 : TypeId) (cs cs2 : Array Value) (fr fr2 : Nat × Nat) (d d2 : TypeDesc) (v v2 : Value)
  (hp : tmps.getD p undef = .pointer (some ⟨g, 0, none⟩)) (hp2 : tmps.getD p2 undef = .pointer (some ⟨g2, 0, none⟩)) (hv : tmps.getD q undef = v) (hv2 : tmps.getD q2 undef = v2) (hg : w.heap[g]? = some (.cells cs t fr)) (hg2 : w.heap[g2]? = some (.cells cs2 t2 fr2))
  (hu : P.underlying ty = some d) (hd : (match d with | .struct _ | .array _ _ => true | _ => false) = true) (hi : (P.info? ty).map (·.size) = some cs.size)
  (hu2 : P.underlying ty2 = some d2) (hd2 : (match d2 with | .struct _ | .array _ _ => true | _ => false) = true) (hi2 : (P.info? ty2).map (·.size) = some cs2.size) :
  (results fn tmps).run P w = .ok (.tuple #[.agg cs, .agg cs2, v, v2]) w := by
 have hp' : tmps[p]?.getD undef = .pointer (some ⟨g, 0, none⟩) := by simpa using hp
 have hp2' : tmps[p2]?.getD undef = .pointer (some ⟨g2, 0, none⟩) := by simpa using hp2
 have hv' : tmps[q]?.getD undef = v := by simpa using hv
 have hv2' : tmps[q2]?.getD undef = v2 := by simpa using hv2
 simp [results, h, hp', hp2', hv', hv2', asAddr, run_loadVar_row w g t ty cs fr d hg hu hd hi, run_loadVar_row w g2 t2 ty2 cs2 fr2 d2 hg2 hu2 hd2 hi2]
set_option maxRecDepth 100000 in
theorem copied_ok (J : Nat → Prop) (A : Option Addr) (l : List (List UInt8)) (c : Nat) (w : World) (hr : RdL (msgV J) J 1 w A l) (hc : l.length ≤ c) (hcm : c ≤ maxLen) (hl : l.length ≤ 1000) :
  Calls Tryz.prog 278 #[.slice A l.length c] w fun e w' => ∃ v, e = .returned v ∧ OwnL (msgV (Exc w.heap.size v)) w.heap.size 50 1 w' v l ∧ Chg Non w w' := by
 unfold maxLen at hcm
 have HR := Lib.hid hr
 clear hr
 go_enter Tryz.func278, Tryz.ntmps278
 go_wp2_with fail
 go_loopw [3, 8] (fun ov iv wr => ∃ (k : Nat) (lv : Value), k ≤ l.length ∧ lv = ov ∧ iv = .int .i64 k ∧ Hid (OwnL (msgV (Exc w.heap.size lv)) w.heap.size 50 1 wr lv (l.take k)) ∧ Hid (Chg Non w wr)) (fun _ iv _ => l.length - (intOf iv).toNat)
 case atStart => exact ⟨0, _, Nat.zero_le _, rfl, rfl, Lib.hid (OwnL.nil _ _ _ _ _), Lib.hid (Chg.refl _ _)⟩
 case round =>
  obtain ⟨k, lv, hk, rfl, rfl, HO, HG⟩ := hrel
  by_cases hlt : k < l.length
  ·obtain ⟨a, ha⟩ : ∃ a, l[k]? = some a := ⟨_, List.getElem?_eq_getElem hlt⟩
   have hltd : decide ((k : Int) < (l.length : Int)) = true := by simpa using hlt
   obtain ⟨b, o, rfl, _, hat⟩ := (HR.out.non HG.out (fun a vs h => msgV_non _ _ _ _ HG.out h)).at_ (by omega)
   obtain ⟨vs, hvl, hrg, m, rfl, hbm, hal⟩ := hat k a ha
   have k0 : wr.cell? ⟨b, o + k, none⟩ = some m := by have := hrg 0 m rfl; rwa [Nat.mul_one, Nat.add_zero] at this
   have HS : Hid (l.take (k + 1) = l.take k ++ [a]) := Lib.hid (by
     obtain ⟨hk, rfl⟩ := List.getElem?_eq_some_iff.1 ha
     rw [List.take_succ_eq_append_getElem hk])
   obtain ⟨A4, c4, rfl, hc4, hm4, hrm, _⟩ := hbm
   have HCl := Lib.hid (SlClone_ok A4 a c4 wr hrm (by omega))
   clear ha hat hrg hrm hvl
   go_wp2_with fail
   refine HCl.out.mono ?_
   rintro e u3 ⟨A5, c5, rfl, q1, q2, q3, hg⟩
   have HGn := Lib.hid (HG.out.then_non hg)
   have HO3 := Lib.hid (HO.out.non hg (fun a vs h => h.keep hg (fun _ _ e => e)))
   have HM := Lib.hid q3
   have hsz3 := hg.size
   have hszw := HG.out.size
   clear hg q3 k0
   go_wp2_with (first
     | (refine sel (some 16) (.call _) ?_; refine Vm_stop ?_))
   refine HoleV.mk ?_
   refine wpList_snocL (msgV (fun b => Exc w.heap.size lv b ∧ b < u3.heap.size)) rfl (.tmp 12) (.tmp 15) 79 rfl w.heap.size 50 _ 1 24 Tryz.underlying79 info_clBy rfl (by omega) lv (l.take k) rfl ((HO3.out.mono (fun _ _ h => h.bound)).non ((Chg.refl Non u3).alloc _) (fun _ _ h => h.keep ((Chg.refl Non u3).alloc _) (fun _ _ e => e))) u3.heap.size a #[.slice A5 a.length c5] 50 rfl (blk_new _ _) rfl (by simp [Value.oneCell']) ?_ (by omega) (by simp; omega) (fun _ _ _ hg h => h.keep hg (fun b e => e.1.2)) ?_ ?_
   ·rw [List.length_take]; omega
   ·refine ⟨_, rfl, ((own_bytes HM.out q1 q2).bound.non ((Chg.refl Non u3).alloc _)).mono (fun b e => ⟨⟨?_, fun e2 => ?_⟩, e.2⟩), hal⟩
    ·have h1 : wr.heap.size ≤ b := e.1
     omega
    ·have h1 : wr.heap.size ≤ b := e.1
     have := (HO.out.ge e2).2
     omega
   intro v2 w2 ho hg hv
   have HO2 : Hid (OwnL (msgV (Exc w.heap.size v2)) w.heap.size 50 1 w2 v2 (l.take (k + 1))) := Lib.hid (by
     rw [HS.out]
     refine ho.mono (fun a vs h => h.mono (fun b e => ⟨e.1.1, fun e2 => ?_⟩))
     rcases hv b e2 with e3 | e3
     · exact e.1.2 e3
     · have := e.2; simp at e3; omega)
   have HG2 : Hid (Chg Non w w2) := Lib.hid ((HGn.out.alloc _).then_new hg (fun x e => (HO.out.ge e).1))
   obtain ⟨A6, c6, hv6, hl6, hm6, _⟩ := ho.rd
   obtain ⟨n6, hn6⟩ : ∃ q, (l.take k ++ [a]).length = q := ⟨_, rfl⟩
   rw [hn6] at hv6
   subst hv6
   clear ho hg hv
   go_wp2_with fail
   exact ⟨⟨k + 1, _, by omega, rfl, by simp, HO2, HG2⟩, by simp [intOf]; omega⟩
  ·obtain rfl : k = l.length := by omega
   have hltd : decide ((l.length : Int) < (l.length : Int)) = false := by simp
   rw [List.take_length] at HO
   go_wp2_with fail
   go_ret
   exact ⟨_, rfl, HO.out, HG.out⟩
end
end Go.Proofs.YtmnaleaghfbclaaGreatDoor
