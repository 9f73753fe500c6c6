/- KernelTime, part 14 of 28: contracts of the functions that it reaches, and the laws that they need, merged and shortened (from my texts XSCopyB, XSCopy, XSPart, XKMap, XKer). -/
import Derived.Test.YtmnaleaghfbclaaGreatDoorMgKernelTimeA
import Derived.Test.YtmnaleaghfbclaaGreatDoorMgKernelTimeM
import Derived.Maps.Keyed
namespace Go.Proofs.YtmnaleaghfbclaaGreatDoor
set_option linter.unusedVariables false
set_option linter.unusedSimpArgs false
set_option maxHeartbeats 8000000
section
open Go.RowKit
theorem blk_there {w : World} {g n k : Nat} {cs : Array Value} {t : TypeId} (h : w.heap[g]? = some (.cells cs t (0, 0))) (hk : k * n + n ≤ cs.size) : w.there g (k * n) n := fun j hj => by
 rw [cell_of_row _ _ _ _ _ _ h]
 exact ⟨by rw [Array.getElem?_eq_getElem (show k * n + j < cs.size by omega)]; rfl, blk_free h _⟩
set_option maxRecDepth 100000 in
theorem scopy_apart (I : Nat → Prop) (w : World) (s : Sta) (vb vd : Value) (hs : StaV I w s vb vd) (hpl : s.parts.length ≤ 1000) (hql : s.queues.length ≤ 1000) (hml : ∀ a ∈ s.queues, a.msgs.length ≤ 1000) :
  Calls Tryz.prog 45 #[.agg #[.int .i64 s.frames, vb, vd]] w fun e w' => ∃ b d, e = .returned (.agg #[.int .i64 s.frames, b, d]) ∧ StaO w.heap.size w' s b d ∧ (∃ M, w.heap.size ≤ M ∧ (∀ g, b.ownBlock = some g → g < M) ∧ SlV (quV (From M)) (From M) 6 w' s.queues d) ∧ Chg Non w w' := by
 obtain ⟨J, hJ⟩ : ∃ J : Nat → Prop, J = fun b => I b ∧ b < w.heap.size := ⟨_, rfl⟩
 have hJb : ∀ b, J b → b < w.heap.size := fun b e => by rw [hJ] at e; exact e.2
 obtain ⟨⟨A1, c1, rfl, hc1, hm1, hr1⟩, ⟨A2, c2, rfl, hc2, hm2, hr2⟩⟩ := hs
 have HPS : Hid (RdL (ptV J) J 14 w A1 s.parts) := Lib.hid (by rw [hJ]; exact hr1.bound (by omega) (fun a vs _ h => h.bound))
 have HQS : Hid (RdL (quV J) J 6 w A2 s.queues) := Lib.hid (by rw [hJ]; exact hr2.bound (by omega) (fun a vs _ h => h.bound))
 unfold maxLen at hm1 hm2
 clear hJ hr1 hr2
 go_enter Tryz.func45, Tryz.ntmps45
 go_wp2_with fail
 have hv : Chg Non w ((w.alloc (.cells #[.int .i64 s.frames, .slice A1 s.parts.length c1, .slice A2 s.queues.length c2] 30)).alloc (.cells #[.int .i64 0, .slice none 0 0, .slice none 0 0] 30)) := ((Chg.refl Non w).alloc _).alloc _
 refine (clonePt (ptV J) J ptV.keepL ptV_one A1 s.parts c1 _ (fun b e => by have := hJb b e; simp; omega) (HPS.out.non hv (fun a vs h => ptV_non _ _ _ _ hv h)) (by omega)).mono ?_
 rintro e u ⟨v1, rfl, ho1, hg⟩
 obtain ⟨hb0, hb1, hlt, hgw⟩ := blk_call2 hg
 have hlt0 : w.heap.size < u.heap.size := by omega
 have HB0 := Lib.hid hb0
 have HB1 := Lib.hid hb1
 have HG := Lib.hid hgw
 have HO1 := Lib.hid (ho1.base (B' := w.heap.size + 2) (by simp))
 have f1 := blk_cell hb0 1 (v := .slice A1 s.parts.length c1) rfl
 have fz := blk_free hb0 1
 obtain ⟨R1, d1, rfl, hd1, hdm1, _⟩ := ho1.rd
 unfold maxLen at hdm1
 clear ho1 hg hb0 hb1 hgw hv
 go_wp2_with fail
 have hs1 := chg_set u w.heap.size 1 (.slice R1 s.parts.length d1)
 obtain ⟨va, hva⟩ : ∃ v, v = u.setCell ⟨w.heap.size, 1, none⟩ (.slice R1 s.parts.length d1) := ⟨_, rfl⟩
 rw [← hva] at hs1 ⊢
 have HBP : Hid (va.heap[w.heap.size]? = some (.cells #[.int .i64 s.frames, .slice R1 s.parts.length d1, .slice A2 s.queues.length c2] 30 (0, 0))) := Lib.hid (by rw [hva]; exact blk_set 1 _ HB0.out)
 have HB1a := Lib.hid (blk_keep HB1.out hs1 (fun e => by omega))
 have HGa := Lib.hid (HG.out.then_new hs1 (fun x e => by omega))
 have HP0 := Lib.hid (HO1.out.keep hs1 (fun g e e2 => by have := (HO1.out.ge e).1; omega) (fun a vs h => h.keep hs1 (fun b e e2 => by have := hJb b e; omega)))
 have hvas := HGa.out.size
 have hvab := blk_lt HB1a.out
 clear hva hs1 f1 fz
 go_loopw [16] (fun iv wr => ∃ k : Nat, k ≤ s.parts.length ∧ iv = .int .i64 k ∧ Hid (OwnL (ptT J (From va.heap.size)) (w.heap.size + 2) 69 14 wr (.slice R1 s.parts.length d1) (tg k s.parts)) ∧ Hid (Chg (fun b => (Value.slice R1 s.parts.length d1).ownBlock = some b) va wr)) (fun iv _ => s.parts.length - (intOf iv).toNat)
 case atStart => exact ⟨0, Nat.zero_le _, rfl, Lib.hid (tg_zero HP0.out (fun a vs h => h)), Lib.hid (Chg.refl _ _)⟩
 case round =>
  obtain ⟨k, hk, rfl, HO, HGr⟩ := hrel
  obtain ⟨wo, hwo⟩ : ∃ x, x = wr := ⟨_, rfl⟩
  subst hwo
  have HBr := Lib.hid (blk_keep HBP.out HGr.out (fun e => by have := (HP0.out.ge e).1; omega))
  have hlw := blk_lt HBr.out
  have hsv := HGr.out.size
  by_cases hlt : k < s.parts.length
  ·obtain ⟨g, cap, cur, e1, hBg, hgb, r1, r2, r3, hat⟩ := HO.out.shape (by rw [tg_len]; omega)
   injection e1 with e1 e2 e3
   clear e2
   subst e1 e3
   rw [tg_len] at r1
   have hg0 : g < va.heap.size := (HP0.out.ge (g := g) rfl).2
   obtain ⟨a, ha⟩ : ∃ a, s.parts[k]? = some a := ⟨_, List.getElem?_eq_getElem hlt⟩
   have hltd : decide ((k : Int) < (s.parts.length : Int)) = true := by simpa using hlt
   obtain ⟨vs, hvl, hrg, hR⟩ := hat k (a, false) (by rw [tg_get, ha]; simp)
   obtain ⟨m, rfl, ⟨A, c5, rfl, hc5, hcm5, hrm, _⟩, hbd, hl5⟩ := (show ptV J wo a vs from hR)
   have HTS := Lib.hid (tg_set ha)
   have HA := Lib.hid ha
   have HBD := Lib.hid hbd
   have HRG := Lib.hid hrg
   have hcur : k * 14 + 14 ≤ cur.size := by omega
   clear hat hR ha hrg hbd r1 r2 r3
   go_wp2_with (first
     | (refine sel (some 20) (.load 69 _) ?_; refine wpList_load_mid rfl 69 (.tmp 19) rfl g (k * 14) rfl (partL a (.slice A a.mem.length c5)) _ HRG.out Tryz.underlying69 rfl (by rw [hvl]; exact info_part) ?_)
     | (refine sel none (.store 69 (.tmp 4) (.tmp 20)) ?_
        refine wpList_store_rowA rfl 69 (.tmp 4) (.tmp 20) rfl wo.heap.size (partC a (.slice A a.mem.length c5)) rfl rfl 69 zeroPart (blk_new _ _) (by rw [partC_size HBD.out.r8]; exact info_part) (by rw [partC_size HBD.out.r8]; rfl) (partC_one _ _ rfl) ?_
        intro W1 hgW hbW))
   obtain ⟨v, hv⟩ : ∃ v, v = W1.drew := ⟨_, rfl⟩
   have hv0 : v.heap[wo.heap.size]? = some (.cells (partC a (.slice A a.mem.length c5)) 69 (0, 0)) := by rw [hv]; exact hbW
   have hgv0 : Chg Non wo W1 := ((Chg.refl Non wo).alloc _).then_new hgW (fun x e => by omega)
   have hgv : Chg Non wo v := by rw [hv]; exact hgv0.drew
   have hvlt := blk_lt hv0
   have hbx : v.cell? ⟨w.heap.size, 1, none⟩ = some (.slice (some ⟨g, 0, none⟩) s.parts.length d1) := blk_cell (blk_keep HBr.out hgv (fun e => e)) 1 rfl
   have hne : ¬ (⟨w.heap.size, 1, none⟩ : Addr).block = g := fun e => by simp only at e; omega
   have hne2 : ¬ wo.heap.size = g := fun e => by omega
   have HGB := Lib.hid (blk_keep hgb hgv (fun e => e))
   have HRm := Lib.hid (hrm.non hgv)
   have HGV := Lib.hid hgv
   refine wp_region_held_drew (S := Chg (fun b => b = g) W1.drew) (by kernel_rfl) (Chg.refl _ _) (fun hHeld => ?_)
   clear hHeld
   rw [← hv]
   clear hv hgb hgv0 hgW hbW hrm hgv
   refine hp 0 21 (.pointer (some ⟨w.heap.size, 1, none⟩)) rfl (Chg.refl _ _) ?_
   refine hp 1 22 (.slice (some ⟨g, 0, none⟩) s.parts.length d1) rfl (Chg.refl _ _) ?_ (he := (fun W hW => by have hc := hW.cell_some hbx hne; go_simp))
   refine hp 2 23 (.int .i64 k) rfl (Chg.refl _ _) ?_
   refine h_load 3 (some 24) 69 (.tmp 4) wo.heap.size 0 (partC a (.slice A a.mem.length c5)) _ rfl (by kernel_rfl) (by kernel_rfl) (by kernel_rfl) (by kernel_rfl) (by kernel_rfl) (fun _ _ _ h => h) (by kernel_rfl) (by kernel_rfl) (fun W hW => range_keepS (blk_range hv0) hW hne2) Tryz.underlying69 rfl (by rw [partC_size HBD.out.r8]; exact info_part) (Chg.refl _ _) ?_
   simp only [Act.put, sA, sB, sC]
   refine h_one 4 (by kernel_rfl) rfl (by kernel_rfl) ?_
   intro K hK
   go_simp
   refine (Copy_ok a A a.mem c5 v HBD.out.r8 HRm.out (by omega)).mono ?_
   rintro e u1 ⟨A6, c6, rfl, q1, q2, q3, q4⟩
   have HQ := Lib.hid q3
   have HU := Lib.hid q4
   have HUg := Lib.hid (Chg.of_non q4 : Chg (fun b => b = g) v u1)
   have HGB1 := Lib.hid (blk_keep HGB.out q4 (fun e => e))
   clear q3 q4
   refine hK.out _ _ HUg.out (fun _ => ?_)
   clear hK K
   try simp only [Act.put, sA, sB, sC]
   refine hp 5 26 (.pointer (some ⟨g, k * 14, none⟩)) rfl HUg.out ?_
   refine h_one 6 (by kernel_rfl) rfl (by kernel_rfl) ?_
   intro K hK
   refine wp_store_mid 69 (.tmp 26) (.tmp 25) (by kernel_rfl) g (k * 14) (partC a (.slice A6 a.mem.length c6)) (by kernel_rfl) (by kernel_rfl) (by rw [partC_size HBD.out.r8]; exact blk_there HGB1.out (by omega)) (by rw [partC_size HBD.out.r8]; exact info_part) (partC_one _ _ rfl) ?_
   refine hK.out _ _ (HUg.out.trans_same (sCells_chg g (partC a (.slice A6 a.mem.length c6)).toList (k * 14) u1)) (fun _ => ?_)
   clear hK K
   try simp only [Act.put, sA, sB, sC]
   refine wpAnyH_done (by kernel_rfl) ?_ _
   have hst := sCells_chg g (partC a (.slice A6 a.mem.length c6)).toList (k * 14) u1
   have HU2 := Lib.hid (HGV.out.then_non HU.out)
   have hsu := HU2.out.size
   have hsu1 := HGV.out.size
   have HOn : Hid (OwnL (ptT J (From va.heap.size)) (w.heap.size + 2) 69 14 (u1.setCells g (k * 14) (partC a (.slice A6 a.mem.length c6)).toList) (.slice (some ⟨g, 0, none⟩) s.parts.length d1) (tg (k + 1) s.parts)) := Lib.hid (by
     rw [← HTS.out]
     refine OwnL.put (R := ptT J (From va.heap.size)) (HO.out.non HU2.out (fun a vs h => h.keep HU2.out (fun _ _ e => e) (fun _ _ e => e))) (by rw [tg_len]; exact hlt) (by rw [Array.length_toList, partC_size HBD.out.r8]) (fun a vs h => h.keep hst (fun b e e2 => by have := hJb b e; omega) (fun b e e2 => by have : va.heap.size ≤ b := e; omega)) ?_
     exact ⟨_, rfl, (own_bytes ((HQ.out.mono (by omega)).keep hst (fun b o e1 e2 e3 e4 => by omega)) q1 q2 : BytesV (From va.heap.size) _ _ _), HBD.out, hl5⟩)
   have HGn : Hid (Chg (fun b => (Value.slice (some ⟨g, 0, none⟩) s.parts.length d1).ownBlock = some b) va (u1.setCells g (k * 14) (partC a (.slice A6 a.mem.length c6)).toList)) := Lib.hid ((HGr.out.then_non HU2.out).trans_same (hst.mono (fun x e => by subst e; rfl)))
   clear HUg hst hbx hv0
   go_wp2_with fail
   exact ⟨⟨k + 1, by omega, by simp, HOn, HGn⟩, by simp [intOf]; omega⟩
  ·obtain rfl : k = s.parts.length := by omega
   have hltd : decide ((s.parts.length : Int) < (s.parts.length : Int)) = false := by simp
   have HP1 := Lib.hid (tg_all (R' := ptV (From va.heap.size)) HO.out (fun a vs h => h))
   have hgp : ∀ g, (Value.slice R1 s.parts.length d1).ownBlock = some g → w.heap.size + 2 ≤ g ∧ g < va.heap.size := fun g e => HP0.out.ge e
   have HB1w := Lib.hid (blk_keep HB1a.out HGr.out (fun e => by have := (hgp _ e).1; omega))
   have HGw := Lib.hid (HGa.out.then_new HGr.out (fun x e => by have := (hgp _ e).1; omega))
   have f2 := blk_cell HBr.out 2 (v := .slice A2 s.queues.length c2) rfl
   have hws := HGw.out.size
   clear HO
   go_wp2_with fail
   refine (cloneQu (quV J) J quV.keepL quV_one A2 s.queues c2 _ (fun b e => by have := hJb b e; omega) (HQS.out.non HGw.out (fun a vs h => quV_non _ _ _ _ HGw.out h)) (by omega)).mono ?_
   rintro e u3 ⟨v2, rfl, ho2, hg⟩
   have HB0c := Lib.hid (blk_keep HBr.out hg (fun e => e))
   have HB1c := Lib.hid (blk_keep HB1w.out hg (fun e => e))
   have HG3 := Lib.hid (HGw.out.then_non hg)
   have HP2 : Hid (OwnL (ptV (fun b => Exc w.heap.size (.slice R1 s.parts.length d1) b ∧ w.heap.size + 2 ≤ b ∧ b < wo.heap.size)) (w.heap.size + 2) 69 14 u3 (.slice R1 s.parts.length d1) s.parts) := Lib.hid ((HP1.out.mono (fun a vs h => h.bound.mono (fun b e => by
     have h1 : va.heap.size ≤ b := e.1
     exact ⟨⟨by omega, fun e2 => by have := (hgp b e2).2; omega⟩, by omega, e.2⟩))).non hg (fun a vs h => ptV_non _ _ _ _ hg h))
   have HO2 := Lib.hid (ho2.base (B' := w.heap.size + 2) (by omega))
   have fz' := blk_free HB0c.out 2
   have f0 := blk_cell HB0c.out 2 (v := .slice A2 s.queues.length c2) rfl
   have hlt3 := blk_lt HB0c.out
   have hlt3b := blk_lt HB1c.out
   obtain ⟨R2, d2, rfl, hd2, hdm2, _⟩ := ho2.rd
   have hR2 : ∀ g, (Value.slice R2 s.queues.length d2).ownBlock = some g → wo.heap.size ≤ g := fun g e => (ho2.ge e).1
   have hR1 : ∀ g, (Value.slice R1 s.parts.length d1).ownBlock = some g → g < wo.heap.size := fun g e => (HP1.out.ge e).2
   unfold maxLen at hdm2
   have hwou := hg.size
   clear ho2 hg f2
   go_wp2_with fail
   have hs3 := chg_set u3 w.heap.size 2 (.slice R2 s.queues.length d2)
   obtain ⟨v0, hv0⟩ : ∃ v, v = u3.setCell ⟨w.heap.size, 2, none⟩ (.slice R2 s.queues.length d2) := ⟨_, rfl⟩
   rw [← hv0] at hs3 ⊢
   have HBX : Hid (v0.heap[w.heap.size]? = some (.cells #[.int .i64 s.frames, .slice R1 s.parts.length d1, .slice R2 s.queues.length d2] 30 (0, 0))) := Lib.hid (by rw [hv0]; exact blk_set 2 _ HB0c.out)
   have HB1d := Lib.hid (blk_keep HB1c.out hs3 (fun e => by omega))
   have HG4 := Lib.hid (HG3.out.then_new hs3 (fun x e => by omega))
   have HP9 := Lib.hid (HP2.out.keep hs3 (fun g e e2 => by have := (HP2.out.ge e).1; omega) (fun a vs h => h.keep hs3 (fun b e e2 => by have := e.2.1; omega)))
   have HQ0 := Lib.hid (HO2.out.keep hs3 (fun g e e2 => by have := (HO2.out.ge e).1; omega) (fun a vs h => h.keep hs3 (fun b e e2 => by have := hJb b e; omega)))
   have hv0s := HG4.out.size
   have hv0b := blk_lt HB1d.out
   obtain ⟨wp0, hwp0⟩ : ∃ n, n = wo.heap.size := ⟨_, rfl⟩
   rw [← hwp0] at hR1 hR2 HP9
   have hwv0 : wp0 ≤ v0.heap.size := by have := hs3.size; omega
   have hwp1 : w.heap.size ≤ wp0 := by omega
   clear hv0 hs3 HBr HGr
   go_loopw [35] (fun iv wr => ∃ k : Nat, k ≤ s.queues.length ∧ iv = .int .i64 k ∧ Hid (OwnL (quT J (From v0.heap.size)) (w.heap.size + 2) 95 6 wr (.slice R2 s.queues.length d2) (tg k s.queues)) ∧ Hid (Chg (fun b => (Value.slice R2 s.queues.length d2).ownBlock = some b) v0 wr)) (fun iv _ => s.queues.length - (intOf iv).toNat)
   case atStart => exact ⟨0, Nat.zero_le _, rfl, Lib.hid (tg_zero HQ0.out (fun a vs h => h)), Lib.hid (Chg.refl _ _)⟩
   case round =>
    obtain ⟨k, hk, rfl, HO, HGr⟩ := hrel
    obtain ⟨wo, hwo⟩ : ∃ x, x = wr := ⟨_, rfl⟩
    subst hwo
    have HBr := Lib.hid (blk_keep HBX.out HGr.out (fun e => by have := (HQ0.out.ge e).1; omega))
    have hlw := blk_lt HBr.out
    have hsv := HGr.out.size
    by_cases hlt : k < s.queues.length
    ·obtain ⟨g, cap, cur, e1, hBg, hgb, r1, r2, r3, hat⟩ := HO.out.shape (by rw [tg_len]; omega)
     injection e1 with e1 e2 e3
     clear e2
     subst e1 e3
     have hg0 : g < v0.heap.size := (HQ0.out.ge (g := g) rfl).2
     obtain ⟨a, ha⟩ : ∃ a, s.queues[k]? = some a := ⟨_, List.getElem?_eq_getElem hlt⟩
     have hltd : decide ((k : Int) < (s.queues.length : Int)) = true := by simpa using hlt
     obtain ⟨vs, hvl, hrg, hR⟩ := hat k (a, false) (by rw [tg_get, ha]; simp)
     obtain ⟨m, rfl, ⟨A, c5, rfl, hc5, hcm5, hrm⟩, hbd, hl5⟩ := (show quV J wo a vs from hR)
     have hms : a.msgs.length ≤ 1000 := hml a (List.mem_of_getElem? ha)
     have HA := Lib.hid ha
     have HBD := Lib.hid hbd
     obtain ⟨⟨x1, x2, x3, x4, x5⟩, ms⟩ := a
     simp only at hl5 hrm hc5 hms
     unfold maxLen at hcm5
     have HRG := Lib.hid hrg
     have hm50 : wo.cell? ⟨g, k * 6 + 5, none⟩ = some (.slice A ms.length c5) := hrg 5 _ rfl
     clear hat hR r1 r2 r3 ha hrg hbd
     go_wp2_with (first
       | (refine sel (some 39) (.load 95 _) ?_; refine wpList_load_mid rfl 95 (.tmp 38) rfl g (k * 6) rfl [.int .i64 x1, .int .i64 x2, .int .i64 x3, .int .i64 x4, .int .i64 x5, .slice A ms.length c5] _ HRG.out Tryz.underlying95 rfl (by kernel_rfl) ?_)
       | (refine sel none (.store 95 (.tmp 6) (.tmp 39)) ?_
          refine wpList_store_rowA rfl 95 (.tmp 6) (.tmp 39) rfl wo.heap.size #[.int .i64 x1, .int .i64 x2, .int .i64 x3, .int .i64 x4, .int .i64 x5, .slice A ms.length c5] rfl rfl 95 _ (blk_new _ _) (by kernel_rfl) rfl (by simp [Value.oneCell']) ?_
          intro W1 hgW hbW))
     obtain ⟨v, hv⟩ : ∃ v, v = W1.drew := ⟨_, rfl⟩
     have hv0 : v.heap[wo.heap.size]? = some (.cells #[.int .i64 x1, .int .i64 x2, .int .i64 x3, .int .i64 x4, .int .i64 x5, .slice A ms.length c5] 95 (0, 0)) := by rw [hv]; exact hbW
     have hgv0 : Chg Non wo W1 := ((Chg.refl Non wo).alloc _).then_new hgW (fun x e => by omega)
     have hgv : Chg Non wo v := by rw [hv]; exact hgv0.drew
     have hvlt := blk_lt hv0
     have hbx : v.cell? ⟨w.heap.size, 2, none⟩ = some (.slice (some ⟨g, 0, none⟩) s.queues.length d2) := blk_cell (blk_keep HBr.out hgv (fun e => e)) 2 rfl
     have hne : ¬ (⟨w.heap.size, 2, none⟩ : Addr).block = g := fun e => by simp only at e; omega
     have hne2 : ¬ (⟨wo.heap.size, 5, none⟩ : Addr).block = g := fun e => by simp only at e; omega
     have hpm : v.cell? ⟨wo.heap.size, 5, none⟩ = some (.slice A ms.length c5) := blk_cell hv0 5 rfl
     have hm5 : v.cell? ⟨g, k * 6 + 5, none⟩ = some (.slice A ms.length c5) := hgv.cell_some hm50 (fun e => e)
     have HGB := Lib.hid (blk_keep hgb hgv (fun e => e))
     have HRm := Lib.hid (hrm.non hgv (fun a vs h => msgV_non _ _ _ _ hgv h))
     have HGV := Lib.hid hgv
     have HV6 := Lib.hid hv0
     refine wp_region_held_drew (S := Chg (fun b => b = g) W1.drew) (by kernel_rfl) (Chg.refl _ _) (fun hHeld => ?_)
     clear hHeld
     rw [← hv]
     clear hv hgb hgv0 hgW hbW hrm hm50 hv0 hgv
     refine hp 0 40 (.pointer (some ⟨w.heap.size, 2, none⟩)) rfl (Chg.refl _ _) ?_
     refine hp 1 41 (.slice (some ⟨g, 0, none⟩) s.queues.length d2) rfl (Chg.refl _ _) ?_ (he := (fun W hW => by have hc := hW.cell_some hbx hne; go_simp))
     refine hp 2 42 (.int .i64 k) rfl (Chg.refl _ _) ?_
     refine hp 3 43 (.pointer (some ⟨wo.heap.size, 5, none⟩)) rfl (Chg.refl _ _) ?_
     refine hp 4 44 (.slice A ms.length c5) rfl (Chg.refl _ _) ?_ (he := (fun W hW => by have hc := hW.cell_some hpm hne2; go_simp))
     refine h_one 5 (by kernel_rfl) rfl (by kernel_rfl) ?_
     intro K hK
     go_simp
     refine (cloneBy (msgV J) J msgV.keepL msgV_one A ms c5 v (fun b e => by have := hJb b e; omega) HRm.out (by omega)).mono ?_
     rintro e u1 ⟨vm, rfl, hom, hgm⟩
     have HOM := Lib.hid hom
     have HU := Lib.hid hgm
     have HUg := Lib.hid (Chg.of_non hgm : Chg (fun b => b = g) v u1)
     have hm6 : u1.cell? ⟨g, k * 6 + 5, none⟩ = some (.slice A ms.length c5) := hgm.cell_some hm5 (fun e => e)
     have hf6 : u1.frozen? ⟨g, k * 6 + 5, none⟩ = false := by have h := blk_keep HGB.out hgm (fun e => e); exact blk_free h _
     obtain ⟨RM, dm, rfl, hdm, hdmm, _⟩ := hom.rd
     clear hom hgm
     refine hK.out _ _ HUg.out (fun _ => ?_)
     clear hK K
     try simp only [Act.put, sA, sB, sC]
     refine hp 6 46 (.pointer (some ⟨g, k * 6, none⟩)) rfl HUg.out ?_
     refine hp 7 47 (.pointer (some ⟨g, k * 6 + 5, none⟩)) rfl HUg.out ?_
     refine h_one 8 (by kernel_rfl) rfl (by kernel_rfl) ?_
     intro K hK
     go_simp
     refine hK.out _ _ (HUg.out.trans_same (chg_set u1 g (k * 6 + 5) (.slice RM ms.length dm))) (fun _ => ?_)
     clear hK K
     try simp only [Act.put, sA, sB, sC]
     refine wpAnyH_done (by kernel_rfl) ?_ _
     have hst := chg_set u1 g (k * 6 + 5) (.slice RM ms.length dm)
     have HU2 := Lib.hid (HGV.out.then_non HU.out)
     have hsu := HU2.out.size
     have hvu := HU.out.size
     obtain ⟨w3, hw3⟩ : ∃ x, x = u1.setCell ⟨g, k * 6 + 5, none⟩ (.slice RM ms.length dm) := ⟨_, rfl⟩
     rw [← hw3] at hst ⊢
     have HOF : Hid (OwnL (fluxR (quT J (fun b => v0.heap.size ≤ b ∧ b < wo.heap.size)) (fun vs => vs = [.int .i64 x1, .int .i64 x2, .int .i64 x3, .int .i64 x4, .int .i64 x5, .slice RM ms.length dm])) (w.heap.size + 2) 95 6 w3 (.slice (some ⟨g, 0, none⟩) s.queues.length d2) (((tg k s.queues).map fun x => (x, false)).set k ((⟨⟨x1, x2, x3, x4, x5⟩, ms⟩, false), true))) := Lib.hid (by
       rw [hw3] at hst ⊢
       refine OwnL.cell (R := fluxR (quT J (fun b => v0.heap.size ≤ b ∧ b < wo.heap.size)) (fun vs => vs = [.int .i64 x1, .int .i64 x2, .int .i64 x3, .int .i64 x4, .int .i64 x5, .slice RM ms.length dm])) (j := 5) (a := ((⟨⟨x1, x2, x3, x4, x5⟩, ms⟩, false), false)) (OwnL.non (flux_in _ (HO.out.mono (fun a vs h => h.bound.mono (fun b e => e)))) HU2.out ?_) (by rw [List.getElem?_map, tg_get, HA.out]; simp) (by omega) ?_ ?_
       · intro x vs h
         obtain ⟨x, t⟩ := x
         cases t with
         | true => exact h
         | false => exact quT.keep (show quT J _ wo x vs from h) HU2.out (fun _ _ e => e) (fun _ _ e => e)
       · intro x vs h
         obtain ⟨x, t⟩ := x
         cases t with
         | true => exact h
         | false => exact quT.keep (show quT J _ u1 x vs from h) hst (fun b e e2 => by have := hJb b e; omega) (fun b e e2 => by omega)
       · intro vs hvl h
         obtain ⟨m, rfl, _⟩ := (show quV J u1 ⟨⟨x1, x2, x3, x4, x5⟩, ms⟩ vs from h)
         rfl)
     have HM3 := Lib.hid (HOM.out.keep hst (fun q e e2 => by have := (HOM.out.ge e).1; omega) (fun a vs h => h.keep hst (fun b e e2 => by have := hJb b e; omega)))
     have HB3 := Lib.hid (blk_keep (blk_keep HBr.out HU2.out (fun e => e)) hst (fun e => hne e))
     have HB36 := Lib.hid (blk_keep (blk_keep HV6.out HU.out (fun e => e)) hst (fun e => hne2 e))
     have HR3 := Lib.hid ((HRm.out.non HU.out (fun a vs h => msgV_non _ _ _ _ HU.out h)).keep hst (fun b e e2 => by have := hJb b e; omega) (fun a vs _ h => h.keep hst (fun b e e2 => by have := hJb b e; omega)))
     have HG3 : Hid (Chg (fun b => b = g) wo w3) := Lib.hid ((HU2.out.of_non : Chg (fun b => b = g) wo u1).trans_same hst)
     have hpq3 : w3.cell? ⟨g, k * 6 + 5, none⟩ = some (.slice RM ms.length dm) := by
      rw [hw3]
      exact blk_cell (blk_set (k * 6 + 5) _ (blk_keep HGB.out HU.out (fun e => e))) (k * 6 + 5) (by rw [Array.getElem?_setIfInBounds_self_of_lt]; have := hm6; rw [cell_of_row _ _ _ _ _ _ (blk_keep HGB.out HU.out (fun e => e))] at this; exact (Array.getElem?_eq_some_iff.1 this).1)
     have hp3 := blk_cell HB36.out 5 (v := .slice A ms.length c5) rfl
     have hw3s : u1.heap.size ≤ w3.heap.size := hst.size
     have HP3 := Lib.hid hpq3
     clear hw3 hst HUg hm5 hm6 hf6 hbx hpm hpq3
     go_wp2_with fail
     go_loopw [51] (fun iv wr => ∃ j : Nat, j ≤ ms.length ∧ iv = .int .i64 j ∧ Hid (OwnL (msgT J (From w3.heap.size)) v.heap.size 50 1 wr (.slice RM ms.length dm) (tg j ms)) ∧ Hid (Chg (fun b => (Value.slice RM ms.length dm).ownBlock = some b) w3 wr)) (fun iv _ => ms.length - (intOf iv).toNat)
     case atStart => exact ⟨0, Nat.zero_le _, rfl, Lib.hid (tg_zero HM3.out (fun a vs h => h)), Lib.hid (Chg.refl _ _)⟩
     case round =>
      obtain ⟨j, hj, rfl, HOm, HGm⟩ := hrel
      have hgo : ∀ q, (Value.slice RM ms.length dm).ownBlock = some q → v.heap.size ≤ q ∧ q < w3.heap.size := fun q e => HM3.out.ge e
      have hs3 := HGm.out.size
      by_cases hlj : j < ms.length
      ·obtain ⟨gm, cap, cur, e1, hBm, hgbm, r1, r2, r3, hat⟩ := HOm.out.shape (by rw [tg_len]; omega)
       injection e1 with e1 e2 e3
       clear e2
       subst e1 e3
       have hgm := hgo gm rfl
       obtain ⟨l7, hl7⟩ : ∃ a, ms[j]? = some a := ⟨_, List.getElem?_eq_getElem hlj⟩
       have hltj : decide ((j : Int) < (ms.length : Int)) = true := by simpa using hlj
       obtain ⟨bm, om, vs7, rfl, hJm, hvl7, hrg7, h7, rfl, ⟨A7, c7, rfl, hc7, hcm7, hr7, _⟩, hlen7⟩ := (HR3.out.keep HGm.out (fun b e e2 => by have := hJb b e; have := (hgo b e2).1; omega) (fun a vs _ h => h.keep HGm.out (fun b e e2 => by have := hJb b e; have := (hgo b e2).1; omega))) j l7 hl7
       have hq7 : wr.cell? ⟨bm, om + j, none⟩ = some (.slice A7 l7.length c7) := by have := hrg7 0 _ rfl; simpa using this
       obtain ⟨vs8, hvl8, hrg8, hR8⟩ := hat j (l7, false) (by rw [tg_get, hl7]; simp)
       obtain ⟨h8, rfl, _⟩ := (show msgV J wr l7 vs8 from hR8)
       have hm7 : wr.cell? ⟨gm, j, none⟩ = some h8 := by have := hrg8 0 _ rfl; simpa using this
       have HTS := Lib.hid (tg_set hl7)
       have HL7 := Lib.hid hl7
       clear hat hR8 r1 r2 r3 hl7 hrg8 hrg7
       go_wp2_with fail
       obtain ⟨v', hv'⟩ : ∃ x, x = wr.drew := ⟨_, rfl⟩
       have hgv' : Chg Non wr v' := by rw [hv']; exact (Chg.refl _ _).drew
       have hbx : v'.cell? ⟨w.heap.size, 2, none⟩ = some (.slice (some ⟨g, 0, none⟩) s.queues.length d2) := blk_cell (blk_keep (blk_keep HB3.out HGm.out (fun e => by have := (hgo _ e).1; omega)) hgv' (fun e => e)) 2 rfl
       have hneb : ¬ (⟨w.heap.size, 2, none⟩ : Addr).block = gm := fun e => by simp only at e; omega
       have hneq : ¬ (⟨g, k * 6 + 5, none⟩ : Addr).block = gm := fun e => by simp only at e; omega
       have hpq : v'.cell? ⟨g, k * 6 + 5, none⟩ = some (.slice (some ⟨gm, 0, none⟩) ms.length dm) := hgv'.cell_some (HGm.out.cell_some HP3.out (fun e => by have := (hgo _ e).1; simp only at this; omega)) (fun e => e)
       have HGB7 := Lib.hid (blk_keep hgbm hgv' (fun e => e))
       have HR7 := Lib.hid (hr7.non hgv')
       have hm7 : v'.cell? ⟨gm, j, none⟩ = some h8 := hgv'.cell_some hm7 (fun e => e)
       have HGV7 := Lib.hid hgv'
       have hv's := hgv'.size
       refine wp_region_held_drew (S := Chg (fun b => b = gm) wr.drew) (by kernel_rfl) (Chg.refl _ _) (fun hHeld => ?_)
       clear hHeld
       rw [← hv']
       clear hv' hgbm hr7 hgv' hq7
       refine hp 0 56 (.pointer (some ⟨w.heap.size, 2, none⟩)) rfl (Chg.refl _ _) ?_
       refine hp 1 57 (.slice (some ⟨g, 0, none⟩) s.queues.length d2) rfl (Chg.refl _ _) ?_ (he := (fun W hW => by have hc := hW.cell_some hbx hneb; go_simp))
       refine hp 2 58 (.int .i64 k) rfl (Chg.refl _ _) ?_
       refine hp 3 59 (.pointer (some ⟨g, k * 6, none⟩)) rfl (Chg.refl _ _) ?_
       refine hp 4 60 (.pointer (some ⟨g, k * 6 + 5, none⟩)) rfl (Chg.refl _ _) ?_
       refine hp 5 61 (.slice (some ⟨gm, 0, none⟩) ms.length dm) rfl (Chg.refl _ _) ?_ (he := (fun W hW => by have hc := hW.cell_some hpq hneq; go_simp))
       refine hp 6 62 (.int .i64 j) rfl (Chg.refl _ _) ?_
       refine hp 7 63 (.slice A7 l7.length c7) rfl (Chg.refl _ _) ?_
       refine h_one 8 (by kernel_rfl) rfl (by kernel_rfl) ?_
       intro K hK
       go_simp
       refine (SlClone_ok A7 l7 c7 v' HR7.out (by omega)).mono ?_
       rintro e u2 ⟨A8, c8, rfl, q1, q2, q3, q4⟩
       have HQ8 := Lib.hid q3
       have HU8 := Lib.hid q4
       have HUg8 := Lib.hid (Chg.of_non q4 : Chg (fun b => b = gm) v' u2)
       have hm8 : u2.cell? ⟨gm, j, none⟩ = some h8 := q4.cell_some hm7 (fun e => e)
       have hf8 : u2.frozen? ⟨gm, j, none⟩ = false := by have h := blk_keep HGB7.out q4 (fun e => e); exact blk_free h _
       clear q3 q4
       refine hK.out _ _ HUg8.out (fun _ => ?_)
       clear hK K
       try simp only [Act.put, sA, sB, sC]
       refine hp 9 65 (.pointer (some ⟨gm, j, none⟩)) rfl HUg8.out ?_
       refine h_one 10 (by kernel_rfl) rfl (by kernel_rfl) ?_
       intro K hK
       go_simp
       refine hK.out _ _ (HUg8.out.trans_same (chg_set u2 gm j (.slice A8 l7.length c8))) (fun _ => ?_)
       clear hK K
       try simp only [Act.put, sA, sB, sC]
       refine wpAnyH_done (by kernel_rfl) ?_ _
       have hst := chg_set u2 gm j (.slice A8 l7.length c8)
       have HU9 := Lib.hid (HGV7.out.then_non HU8.out)
       have hsu := HU9.out.size
       have HOn : Hid (OwnL (msgT J (From w3.heap.size)) v.heap.size 50 1 (u2.setCell ⟨gm, j, none⟩ (.slice A8 l7.length c8)) (.slice (some ⟨gm, 0, none⟩) ms.length dm) (tg (j + 1) ms)) := Lib.hid (by
         rw [← HTS.out]
         have ej : j * 1 + 0 = j := by omega
         have := OwnL.cell (R' := msgT J (From w3.heap.size)) (i := j) (j := 0) (a := (l7, false)) (a' := (l7, true)) (u := .slice A8 l7.length c8) (HOm.out.non HU9.out (fun a vs h => h.keep HU9.out (fun _ _ e => e) (fun _ _ e => e))) (by rw [tg_get, HL7.out]; simp) (by omega) (by
           rw [ej]
           exact fun a vs h => h.keep hst (fun b e e2 => by have := hJb b e; omega) (fun b e e2 => by have : w3.heap.size ≤ b := e; omega)) (by
           rw [ej]
           intro vs hvl h
           obtain ⟨m, rfl, _⟩ := (show msgV J u2 l7 vs from h)
           exact ⟨_, rfl, (own_bytes ((HQ8.out.mono (by omega)).keep hst (fun b o e1 e2 e3 e4 => by omega)) q1 q2 : BytesV (From w3.heap.size) _ _ _), hlen7⟩)
         rw [ej] at this
         exact this)
       have HGn : Hid (Chg (fun b => (Value.slice (some ⟨gm, 0, none⟩) ms.length dm).ownBlock = some b) w3 (u2.setCell ⟨gm, j, none⟩ (.slice A8 l7.length c8))) := Lib.hid ((HGm.out.then_non HU9.out).trans_same (hst.mono (fun x e => by subst e; rfl)))
       clear HUg8 hst hm7 hm8 hf8 hbx hpq
       go_wp2_with fail
       exact ⟨⟨j + 1, by omega, by simp, HOn, HGn⟩, by simp [intOf]; omega⟩
      ·obtain rfl : j = ms.length := by omega
       have hltj : decide ((ms.length : Int) < (ms.length : Int)) = false := by simp
       have HOM9 := Lib.hid (tg_all (R' := msgV (From w3.heap.size)) HOm.out (fun a vs h => h))
       have HOE : Hid (OwnL (quT J (From v0.heap.size)) (w.heap.size + 2) 95 6 wr (.slice (some ⟨g, 0, none⟩) s.queues.length d2) (tg (k + 1) s.queues)) := Lib.hid (by
         refine flux_out HA.out (HOF.out.keep HGm.out (fun q e e2 => by
           have h1 := (hgo _ e2).1
           have : g = q := by simpa [Value.ownBlock] using e
           omega) ?_) (fun x vs h => h.mono (fun b e => e.1)) ?_
         · intro x vs h
           obtain ⟨x, t⟩ := x
           cases t with
           | true => exact h
           | false => exact quT.keep (show quT J _ w3 x vs from h) HGm.out (fun b e e2 => by have := hJb b e; have := (hgo b e2).1; omega) (fun b e e2 => by have := (hgo b e2).1; have := e.2; omega)
         · rintro vs rfl
           obtain ⟨A9, c9, e9, h91, h92, h93⟩ := HOM9.out.rd
           exact ⟨_, rfl, ⟨A9, c9, e9, h91, h92, h93.mono (fun b e => by have h1 := (hgo b e).1; exact Nat.le_trans (by omega) h1) (fun a vs _ h => h.mono (fun b e => by have : w3.heap.size ≤ b := e; exact Nat.le_trans (by omega) this))⟩, HBD.out, hl5⟩)
       have HGE : Hid (Chg (fun b => (Value.slice (some ⟨g, 0, none⟩) s.queues.length d2).ownBlock = some b) v0 wr) := Lib.hid ((HGr.out.trans_same (HG3.out.mono (fun x e => by subst e; rfl))).then_new HGm.out (fun x e => by have := (hgo x e).1; omega))
       go_wp2_with fail
       exact ⟨⟨k + 1, by omega, by simp, HOE, HGE⟩, by simp [intOf]; omega⟩
    ·obtain rfl : k = s.queues.length := by omega
     have hltd : decide ((s.queues.length : Int) < (s.queues.length : Int)) = false := by simp
     have HBe := Lib.hid (blk_keep HB1d.out HGr.out (fun e => by have := (HQ0.out.ge e).1; omega))
     have hgo2 : ∀ g, (Value.slice R2 s.queues.length d2).ownBlock = some g → w.heap.size + 2 ≤ g ∧ g < v0.heap.size := fun g e => HQ0.out.ge e
     have y0 := blk_cell HBr.out 0 (v := .int .i64 s.frames) rfl
     have y1 := blk_cell HBr.out 1 (v := .slice R1 s.parts.length d1) rfl
     have y2 := blk_cell HBr.out 2 (v := .slice R2 s.queues.length d2) rfl
     go_wp2_with (refine sel none (.store 30 (.tmp 2) (.tmp 68)) ?_
                  refine wpList_store_rowA rfl 30 (.tmp 2) (.tmp 68) rfl (w.heap.size + 1) #[.int .i64 s.frames, .slice R1 s.parts.length d1, .slice R2 s.queues.length d2] rfl rfl 30 _ HBe.out (by kernel_rfl) rfl (by simp [Value.oneCell']) ?_
                  intro W hgW hbW)
     have hA : Chg (fun b => b = w.heap.size + 1 ∨ (Value.slice R2 s.queues.length d2).ownBlock = some b) v0 W := (HGr.out.mono (fun x e => .inr e)).trans_same (hgW.mono (fun x e => .inl e))
     refine bodyPost_ret (res_c Tryz.results45 _ _ (w.heap.size + 1) 30 _ (0, 0) _ rfl hbW Tryz.underlying30 rfl (by kernel_rfl)) (by kernel_rfl) ⟨_, _, rfl, ⟨?_, ?_⟩, ⟨wp0, hwp1, hR1, ?_⟩, HG4.out.then_new hA (fun x e => ?_)⟩
     ·refine OwnL.mono ((HP9.out.keep hA (fun g e e2 => ?_) (fun a vs h => h.keep hA (fun b e e2 => ?_))).base (by omega)) (fun a vs h => h.mono (fun b e => e.1))
      ·have h1 := HP9.out.ge e
       have h2 := hR1 g e
       rcases e2 with e2 | e2
       ·omega
       ·have := hR2 g e2; omega
      ·rcases e2 with e2 | e2
       ·have := e.2.1; omega
       ·have := hR2 b e2; have := e.2.2; omega
     ·refine OwnL.mono (R := quV (From v0.heap.size)) ((OwnL.keep (tg_all HO.out (fun a vs h => h)) hgW (fun g e e2 => by have := (hgo2 g e).1; omega) (fun a vs h => h.keep hgW (fun b e e2 => by have : v0.heap.size ≤ b := e; omega))).base (by omega)) (fun a vs h => h.mono (fun b e => ⟨?_, fun e2 => ?_⟩))
      ·have : v0.heap.size ≤ b := e
       omega
      ·have : v0.heap.size ≤ b := e
       have := (hgo2 b e2).2
       omega
     ·have hOq := OwnL.keep (tg_all (R' := quV (From v0.heap.size)) HO.out (fun a vs h => h)) hgW (fun g e e2 => by have := (hgo2 g e).1; omega) (fun a vs h => h.keep hgW (fun b e e2 => by have : v0.heap.size ≤ b := e; omega))
      obtain ⟨Aq, cq, eq, eq1, eq2, eq3⟩ := hOq.rd
      exact ⟨Aq, cq, eq, eq1, eq2, eq3.mono (fun b e => hR2 b e) (fun a vs _ h => h.mono (fun b e => by have : v0.heap.size ≤ b := e; show wp0 ≤ b; omega))⟩
     ·rcases e with e | e
      ·omega
      ·have := (hgo2 x e).1; omega
end
section
open Go.RowKit
theorem scopy_ok (I : Nat → Prop) (w : World) (s : Sta) (vb vd : Value) (hs : StaV I w s vb vd) (hpl : s.parts.length ≤ 1000) (hql : s.queues.length ≤ 1000) (hml : ∀ a ∈ s.queues, a.msgs.length ≤ 1000) :
  Calls Tryz.prog 45 #[.agg #[.int .i64 s.frames, vb, vd]] w fun e w' => ∃ b d, e = .returned (.agg #[.int .i64 s.frames, b, d]) ∧ StaO w.heap.size w' s b d ∧ Chg Non w w' :=
 (scopy_apart I w s vb vd hs hpl hql hml).mono fun e w' h => by
  obtain ⟨b, d, h1, h2, _, h3⟩ := h
  exact ⟨b, d, h1, h2, h3⟩
end
section
open Go.RowKit
def idP (id : Int) : Pt → Bool := fun p => decide (p.id = id)
set_option maxRecDepth 100000 in
theorem sp1_ok (p : Pt) (m : Value) (id : Int) (g : Nat) (w : World) (h8 : p.r.length = 8) (hg : w.cell? ⟨g, 0, none⟩ = some (.int .i64 id)) :
  Calls Tryz.prog 108 #[.agg (partC p m), .pointer (some ⟨g, 0, none⟩)] w fun e w' => e = .returned (.bool (idP id p)) ∧ Chg Non w w' := by
 obtain ⟨C, hC⟩ : ∃ C, partC p m = C := ⟨_, rfl⟩
 have hb : PartB (w.alloc (.cells C 69)) w.heap.size p m := ⟨by unfold PartAt; rw [hC]; exact blk_new _ _, h8⟩
 obtain ⟨k0, _⟩ := hb.cells
 have hlt := lt_of_cell hg
 rw [hC]
 have HE : Hid (idP id p = decide (p.id = id)) := Lib.hid rfl
 clear hb hC
 simp only at hlt
 go_enter Tryz.func108, Tryz.ntmps108
 go_wp2_with fail
 go_ret
 exact ⟨ret_b HE.out.symm, (Chg.refl Non w).alloc _⟩
set_option maxRecDepth 100000 in
theorem sPart_ok (I : Nat → Prop) (w : World) (s : Sta) (vb vd : Value) (id : Int) (hs : StaV I w s vb vd) :
  Calls Tryz.prog 61 #[.agg #[.int .i64 s.frames, vb, vd], .int .i64 id] w fun e w' => ((∃ (k : Nat) (a : Pt) (m : Value), idxOf (idP id) s.parts = k ∧ s.parts[k]? = some a ∧ e = .returned (.tuple #[.agg (partC a m), .bool true]) ∧ BytesV (From w.heap.size) w' a.mem m) ∨ (idxOf (idP id) s.parts = -1 ∧ e = .returned (.tuple #[.agg zeroPart, .bool false]))) ∧ Chg Non w w' := by
 obtain ⟨⟨A, c, rfl, hc, hcm, hr⟩, ⟨A2, c2, rfl, hc2, hm2, _⟩⟩ := hs
 have HR := Lib.hid hr
 have HI := Lib.hid (fun W (hg : Chg Non w W) g (hgc : ∀ W', Chg Non W W' → W'.cell? ⟨g, 0, none⟩ = some (.int .i64 id)) => idxSPart (ptV I) I ptV_non (idP id) (.pointer (some ⟨g, 0, none⟩)) A s.parts c W (hr.non hg (fun a vs h => ptV_non _ _ _ _ hg h)) (by
   rintro W' a vs hg2 ha ⟨m, rfl, _, hbd, _⟩
   exact sp1_ok a m id g W' hbd.r8 (hgc W' hg2)) hc hcm)
 have HB := Lib.hid (idx_bd (idP id) s.parts)
 have HJ := Lib.hid (fun k => idx_get (p := idP id) (l := s.parts) (k := k))
 obtain ⟨j, hj⟩ : ∃ j, idxOf (idP id) s.parts = j := ⟨_, rfl⟩
 simp only [hj] at HI HB HJ ⊢
 unfold maxLen at hcm hm2
 clear hr hj
 go_enter Tryz.func61, Tryz.ntmps61
 go_wp2_with fail
 refine (HI.out _ ((((Chg.refl Non w).alloc _).alloc _).alloc _) (w.heap.size + 1) (fun W' hg => by
   refine blk_cell (blk_keep (o := .cells #[.int .i64 id] 3) ?_ hg (fun e => e)) 0 rfl
   exact blk_keep (heap_alloc2_new w _ _) ((Chg.refl Non _).alloc _) (fun e => e))).mono ?_
 rintro e u ⟨rfl, hg⟩
 obtain ⟨hb0, hb1, hb2, hlt, hgw⟩ := blk_call3 hg
 have HB2 := Lib.hid hb2
 have HG := Lib.hid hgw
 have f1 := blk_cell hb0 1 (v := .slice A s.parts.length c) rfl
 clear hg hb0 hb1 hb2 hgw
 by_cases hj0 : j < 0
 ·have hd : decide (j < 0) = true := by simpa using hj0
  have hj1 : j = -1 := by have := HB.out; omega
  go_wp2_with (first
    | (refine sel (some 13) (.build 69 _) ?_; refine wpList_valA rfl (some 13) (.agg zeroPart) rfl (by kernel_rfl) ?_)
    | (refine sel none (.store 69 (.tmp 4) (.tmp 13)) ?_
       refine wpList_store_rowA rfl 69 (.tmp 4) (.tmp 13) rfl (w.heap.size + 1 + 1) zeroPart rfl rfl 69 _ HB2.out (by kernel_rfl) rfl (by simp [zeroPart, Value.oneCell']) ?_
       intro W hgW hbW))
  exact bodyPost_ret (res_ct Tryz.results61 _ _ (w.heap.size + 1 + 1) 69 zeroPart (0, 0) _ _ rfl rfl hbW Tryz.underlying69 rfl (by kernel_rfl)) (by kernel_rfl) ⟨.inr ⟨hj1, rfl⟩, HG.out.then_new hgW (fun x e => by omega)⟩
 ·have hd : decide (j < 0) = false := by simpa using hj0
  obtain ⟨k, rfl⟩ : ∃ k : Nat, j = k := ⟨j.toNat, by omega⟩
  obtain ⟨a, ha, _⟩ := HJ.out k rfl
  obtain ⟨b, o, vs, rfl, _, hvl, hrg, m, rfl, ⟨A5, c5, rfl, hc5, hcm5, hrm, hIm⟩, hbd, hml⟩ := (HR.out.non HG.out (fun a vs h => ptV_non _ _ _ _ HG.out h)) k a ha
  have hkl : k < s.parts.length := (List.getElem?_eq_some_iff.1 ha).1
  have HRG := Lib.hid hrg
  have HCp := Lib.hid (Copy_ok a A5 a.mem c5 u hbd.r8 hrm (by omega))
  have HA := Lib.hid ha
  have HBD := Lib.hid hbd
  clear hrg hrm ha hbd
  go_wp2_with (refine sel (some 18) (.load 69 _) ?_; refine wpList_load_mid rfl 69 (.tmp 17) rfl b (o + k * 14) rfl (partL a (.slice A5 a.mem.length c5)) _ HRG.out Tryz.underlying69 rfl (by rw [hvl]; exact info_part) ?_)
  refine HCp.out.mono ?_
  rintro e u2 ⟨A6, c6, rfl, q1, q2, q3, hg⟩
  have HB3 := Lib.hid (blk_keep HB2.out hg (fun e => e))
  have HQ := Lib.hid q3
  have HG2 := Lib.hid (HG.out.then_non hg)
  have hus := HG.out.size
  clear hg q3
  go_wp2_with (refine sel none (.store 69 (.tmp 4) (.tmp 19)) ?_
               refine wpList_store_rowA rfl 69 (.tmp 4) (.tmp 19) rfl (w.heap.size + 1 + 1) (partC a (.slice A6 a.mem.length c6)) rfl rfl 69 zeroPart HB3.out (by rw [partC_size HBD.out.r8]; exact info_part) (by rw [partC_size HBD.out.r8]; rfl) (partC_one _ _ rfl) ?_
               intro W hgW hbW)
  exact bodyPost_ret (res_ct Tryz.results61 _ _ (w.heap.size + 1 + 1) 69 (partC a (.slice A6 a.mem.length c6)) (0, 0) _ _ rfl rfl hbW Tryz.underlying69 rfl (by rw [partC_size HBD.out.r8]; exact info_part)) rfl
   ⟨.inl ⟨k, a, _, rfl, HA.out, rfl, (own_bytes (HQ.out.keep hgW (fun b o e1 e2 e3 e4 => by omega)) q1 q2).mono (fun b e => Nat.le_trans hus e)⟩, HG2.out.then_new hgW (fun x e => by omega)⟩
end
section
open Go.RowKit Go.Maps
def lookV (m : List (Int × Value)) (i : Int) : Option Value := (m.find? (fun p => p.1 == i)).map (·.2)
def updV (m : List (Int × Value)) (i : Int) (v : Value) : List (Int × Value) := if (m.find? (fun p => p.1 == i)).isSome then m.map (fun p => if p.1 == i then (i, v) else p) else m ++ [(i, v)]
def MapV (w : World) (b : Nat) (m : List (Int × Value)) : Prop :=
 (∃ es clock, w.heap[b]? = some (.map es clock) ∧ MapKept.Stamped es clock ∧ es.toList.map (fun e => (e.key, e.val)) = m.map (fun p => (Value.int .i64 p.1, p.2))) ∧ ∀ p ∈ m, I64 p.1
theorem key_i64V (i : Int) (h : I64 i) : keyOf Tryz.prog 3 (.int .i64 i) = some (.int .i64 i) := Go.Maps.keyOf_int_mk Tryz.underlying3 (WalkArith.wf_i64 h)
theorem intKV : Keyed Tryz.prog 3 := Go.Maps.int_keyed Tryz.underlying3
theorem MapV.blk {w w' : World} {b : Nat} {m : List (Int × Value)} (h : MapV w b m) (hb : w'.heap[b]? = w.heap[b]?) : MapV w' b m := by
 obtain ⟨⟨es, clock, h1, h2⟩, h3⟩ := h
 exact ⟨⟨es, clock, hb.trans h1, h2⟩, h3⟩
theorem MapV.lt {w : World} {b : Nat} {m : List (Int × Value)} (h : MapV w b m) : b < w.heap.size := by
 obtain ⟨⟨es, clock, h1, _⟩, _⟩ := h
 exact (Array.getElem?_eq_some_iff.1 h1).1
theorem MapV.keep {S : Nat → Prop} {w w' : World} {b : Nat} {m : List (Int × Value)} (h : MapV w b m) (hg : Chg S w w') (hn : ¬ S b) : MapV w' b m := h.blk (hg.block b h.lt hn)
theorem mapV_nodup {w : World} {b : Nat} {m : List (Int × Value)} (h : MapV w b m) : (m.map (·.1)).Nodup := by
 obtain ⟨⟨es, clock, hb, hs, hm⟩, _⟩ := h
 have hk : es.toList.map (·.key) = m.map (fun p => Value.int .i64 p.1) := by
  have := congrArg (List.map (·.1)) hm
  simpa [List.map_map, Function.comp_def] using this
 have hn := hs.2.2
 rw [hk, List.Nodup, List.pairwise_map] at hn
 rw [List.Nodup, List.pairwise_map]
 exact hn.imp (fun h e => h (by rw [e]))
theorem lookV_mem {m : List (Int × Value)} {p : Int × Value} (hn : (m.map (·.1)).Nodup) (hp : p ∈ m) : lookV m p.1 = some p.2 := by
 unfold lookV
 induction m with
 | nil => cases hp
 | cons q r ih =>
  rw [List.map_cons, List.nodup_cons] at hn
  rw [List.find?_cons]
  rcases List.mem_cons.1 hp with rfl | hr
  ·simp
  ·have hne : q.1 ≠ p.1 := fun e => hn.1 (by rw [e]; exact List.mem_map.2 ⟨p, hr, rfl⟩)
   simp only [beq_eq_false_iff_ne.2 hne]
   exact ih hn.2 hr
theorem lookV_none {m : List (Int × Value)} {i : Int} (h : ∀ p ∈ m, p.1 ≠ i) : lookV m i = none := by
 unfold lookV
 rw [List.find?_eq_none.2 (fun p hp => by simpa using h p hp)]
 rfl
theorem mapV_at {es : Array MapEntry} {m : List (Int × Value)} (hm : es.toList.map (fun e => (e.key, e.val)) = m.map (fun p => (Value.int .i64 p.1, p.2))) {j : Nat} {e : MapEntry} (he : es.toList[j]? = some e) :
  ∃ p, m[j]? = some p ∧ e.key = .int .i64 p.1 ∧ e.val = p.2 := by
 have h1 : (es.toList.map (fun e => (e.key, e.val)))[j]? = some (e.key, e.val) := by rw [List.getElem?_map, he]; rfl
 rw [hm, List.getElem?_map] at h1
 obtain ⟨p, hp, e'⟩ := Option.map_eq_some_iff.1 h1
 exact ⟨p, hp, (Prod.mk.inj e').1.symm, (Prod.mk.inj e').2.symm⟩
theorem keysV_ok {es : Array MapEntry} {m : List (Int × Value)} (hm : es.toList.map (fun e => (e.key, e.val)) = m.map (fun p => (Value.int .i64 p.1, p.2))) (hk : ∀ p ∈ m, I64 p.1) : ∀ e ∈ es.toList, ∃ l, keyOf Tryz.prog 3 e.key = some l := by
 intro e he
 obtain ⟨j, hj⟩ := List.getElem?_of_mem he
 obtain ⟨p, hp, h1, _⟩ := mapV_at hm hj
 rw [h1]
 exact ⟨_, key_i64V p.1 (hk p (List.mem_of_getElem? hp))⟩
theorem findV_run {W : World} {m : List (Int × Value)} {es : Array MapEntry} (hm : es.toList.map (fun e => (e.key, e.val)) = m.map (fun p => (Value.int .i64 p.1, p.2))) (hk : ∀ p ∈ m, I64 p.1) (i : Int) (hi : I64 i) :
  ((Instr.findKey 3 (.int .i64 i) es.toList).run Tryz.prog W = .ok none W ∧ ∀ p ∈ m, p.1 ≠ i) ∨
  ∃ j e p, (Instr.findKey 3 (.int .i64 i) es.toList).run Tryz.prog W = .ok (some (j, p.2)) W ∧ es.toList[j]? = some e ∧ e.key = .int .i64 i ∧ m[j]? = some p ∧ p.1 = i ∧ e.val = p.2 := by
 rcases intKV.find W (key_i64V i hi) es.toList (keysV_ok hm hk) with ⟨h1, h2⟩ | ⟨j, e, h1, h2, h3⟩
 ·refine .inl ⟨h1, fun p hp hpi => ?_⟩
  obtain ⟨j, hj⟩ := List.getElem?_of_mem hp
  have hlen : es.toList.length = m.length := by have := congrArg List.length hm; simpa using this
  have hjl : j < es.toList.length := by rw [hlen]; exact (List.getElem?_eq_some_iff.1 hj).1
  obtain ⟨q, hq, hk1, _⟩ := mapV_at hm (List.getElem?_eq_getElem hjl)
  rw [hj] at hq
  injection hq with hq
  subst hq
  exact h2 _ (List.getElem_mem hjl) (by rw [hk1, hpi])
 ·obtain ⟨p, hp, hk1, hv⟩ := mapV_at hm h2
  refine .inr ⟨j, e, p, by rw [h1, hv], h2, h3, hp, ?_, hv⟩
  have := h3.symm.trans hk1
  exact (Value.int.inj this).2.symm
theorem zero_bytesV (w : World) : (zeroValue 50).run Tryz.prog w = .ok (.slice none 0 0) w := by kernel_rfl
set_option maxRecDepth 100000 in
theorem lookV_run {w : World} {b : Nat} {m : List (Int × Value)} (h : MapV w b m) (i : Int) (hi : I64 i) (W : World) (hW : W.heap[b]? = w.heap[b]?) :
  (Instr.lookup 62 (.map (some b)) (.int .i64 i) false).run Tryz.prog W = .ok ((lookV m i).getD (.slice none 0 0)) W := by
 have hn := mapV_nodup h
 obtain ⟨⟨es, clock, hb, hs, hm⟩, hk⟩ := h
 have hb' : W.heap[b]? = some (.map es clock) := hW.trans hb
 rcases findV_run (W := W) hm hk i hi with ⟨h1, h2⟩ | ⟨j, e, p, h1, h2, h3, h4, h5, h6⟩
 ·have hl := lookV_none h2
  have hz := zero_bytesV W
  simp only [Instr.lookup, Sem.run_bind, run_underlying Tryz.underlying62, Result.andThen_ok, getObj, Sem.run, hb', intKV.check W _ (key_i64V i hi), h1, hl]
  simp only [Sem.run_pure, Result.andThen_ok, intKV.check W _ (key_i64V i hi), h1, Sem.run_bind, hz, if_false, Bool.false_eq_true, Option.getD_none]
 ·have hl : lookV m i = some p.2 := by rw [← h5]; exact lookV_mem hn (List.mem_of_getElem? h4)
  simp [Instr.lookup, run_underlying Tryz.underlying62, getObj, Sem.run, hb', intKV.check W _ (key_i64V i hi), h1, hl]
theorem updV_none {m : List (Int × Value)} {i : Int} {l : Value} (h : ∀ p ∈ m, p.1 ≠ i) : updV m i l = m ++ [(i, l)] := by
 unfold updV
 rw [List.find?_eq_none.2 (fun p hp => by simpa using h p hp)]
 simp
theorem updV_some {m : List (Int × Value)} {i : Int} {j : Nat} {l : Value} {p : Int × Value} (hn : (m.map (·.1)).Nodup) (hj : m[j]? = some p) (hp : p.1 = i) : updV m i l = m.set j (i, l) := by
 have hm : p ∈ m := List.mem_of_getElem? hj
 have hf : (m.find? (fun q => q.1 == i)).isSome = true := by
  rw [List.find?_isSome]; exact ⟨p, hm, by simp [hp]⟩
 unfold updV
 rw [if_pos hf]
 apply List.ext_getElem?
 intro k
 rw [List.getElem?_map, List.getElem?_set]
 have hjl : j < m.length := (List.getElem?_eq_some_iff.1 hj).1
 by_cases hkj : j = k
 ·subst hkj
  obtain ⟨_, hmj⟩ := List.getElem?_eq_some_iff.1 hj
  simp [hmj, hp, hjl]
 ·simp only [hkj, if_false]
  cases hk : m[k]? with
  | none => rfl
  | some q =>
   have hne : q.1 ≠ i := by
    intro e
    have h1 : (m.map (·.1))[k]? = some i := by rw [List.getElem?_map, hk, Option.map_some, e]
    have h2 : (m.map (·.1))[j]? = some i := by rw [List.getElem?_map, hj, Option.map_some, hp]
    have hkl : k < m.length := (List.getElem?_eq_some_iff.1 hk).1
    exact hkj ((List.getElem?_inj (by simpa using hjl) hn).1 (h2.trans h1.symm))
   simp [hne]
set_option maxRecDepth 100000 in
theorem updV_run {w : World} {b : Nat} {m : List (Int × Value)} (h : MapV w b m) (i : Int) (hi : I64 i) (l : Value) :
  ∃ w', (Instr.mapUpdate 62 (.map (some b)) (.int .i64 i) (l)).run Tryz.prog w = .ok () w' ∧ MapV w' b (updV m i l) ∧ Chg (fun k => k = b) w w' := by
 have hn := mapV_nodup h
 obtain ⟨⟨es, clock, hb, hs, hm⟩, hk⟩ := h
 have hbl : b < w.heap.size := (Array.getElem?_eq_some_iff.1 hb).1
 have hset : ∀ o, ({ w with heap := w.heap.setIfInBounds b o } : World).heap[b]? = some o := fun o => by simp [hbl]
 have hchg : ∀ o, Chg (fun k => k = b) w { w with heap := w.heap.setIfInBounds b o } := fun o => ⟨rfl, rfl, rfl, by simp, fun k hkl hne => by simp [Ne.symm hne]⟩
 rcases findV_run (W := w) hm hk i hi with ⟨h1, h2⟩ | ⟨j, e, p, h1, h2, h3, h4, h5, h6⟩
 ·refine ⟨{ w with heap := w.heap.setIfInBounds b (.map (es.push { key := .int .i64 i, val := l, born := clock }) (clock + 1)) }, ?_, ⟨⟨_, _, hset _, ?_, ?_⟩, ?_⟩, hchg _⟩
  ·simp [Instr.mapUpdate, run_underlying Tryz.underlying62, getObj, setObj, Sem.run, hb, intKV.check w _ (key_i64V i hi), h1]
  ·obtain ⟨s1, s2, s3⟩ := hs
   refine ⟨?_, ?_, ?_⟩
   ·intro x hx
    simp only [Array.toList_push, List.mem_append, List.mem_singleton] at hx
    rcases hx with hx | rfl
    ·have := s1 x hx; omega
    ·simp
   ·simp only [Array.toList_push, List.map_append, List.map_cons, List.map_nil]
    refine List.nodup_append.2 ⟨s2, by simp, ?_⟩
    rintro a ha b hb' rfl
    simp only [List.mem_singleton] at hb'
    obtain ⟨x, hx, rfl⟩ := List.mem_map.1 ha
    have := s1 x hx; omega
   ·simp only [Array.toList_push, List.map_append, List.map_cons, List.map_nil]
    refine List.nodup_append.2 ⟨s3, by simp, ?_⟩
    rintro a ha b hb' rfl
    simp only [List.mem_singleton] at hb'
    obtain ⟨x, hx, hxk⟩ := List.mem_map.1 ha
    obtain ⟨j, hj⟩ := List.getElem?_of_mem hx
    obtain ⟨q, hq, hk1, _⟩ := mapV_at hm hj
    exact h2 q (List.mem_of_getElem? hq) (Value.int.inj (hb'.symm.trans (hxk.symm.trans hk1))).2.symm
  ·rw [updV_none h2]
   simp only [Array.toList_push, List.map_append, List.map_cons, List.map_nil, hm]
  ·intro q hq
   rw [updV_none h2] at hq
   rcases List.mem_append.1 hq with hq | hq
   ·exact hk q hq
   ·rw [List.mem_singleton.1 hq]; exact hi
 ·have hjl : j < es.size := by simpa using (List.getElem?_eq_some_iff.1 h2).1
  have he : es[j]? = some e := by simpa using h2
  obtain ⟨_, hej⟩ := Array.getElem?_eq_some_iff.1 he
  refine ⟨{ w with heap := w.heap.setIfInBounds b (.map (es.modify j fun e => { e with key := .int .i64 i, val := l }) clock) }, ?_, ⟨⟨_, _, hset _, ?_, ?_⟩, ?_⟩, hchg _⟩
  ·have hks := intKV.stays w (key_i64V i hi)
   simp [Instr.mapUpdate, run_underlying Tryz.underlying62, getObj, setObj, Sem.run, hb, intKV.check w _ (key_i64V i hi), h1, he, h3, hks]
  ·obtain ⟨s1, s2, s3⟩ := hs
   have hmod : (es.modify j fun e => { e with key := .int .i64 i, val := l }).toList = es.toList.set j { e with key := .int .i64 i, val := l } := by
    apply List.ext_getElem?
    intro k
    rw [Array.getElem?_toList, Array.getElem?_modify, List.getElem?_set, Array.getElem?_toList]
    by_cases hkj : j = k
    ·subst hkj; simp [hjl, hej]
    ·simp [hkj]
   have hborn : (es.toList.set j { e with key := .int .i64 i, val := l }).map (·.born) = es.toList.map (·.born) := by
    apply List.ext_getElem?
    intro k
    rw [List.getElem?_map, List.getElem?_map, List.getElem?_set]
    by_cases hkj : j = k
    ·subst hkj; simp [hjl, hej]
    ·simp [hkj]
   have hkey : (es.toList.set j { e with key := .int .i64 i, val := l }).map (·.key) = es.toList.map (·.key) := by
    apply List.ext_getElem?
    intro k
    rw [List.getElem?_map, List.getElem?_map, List.getElem?_set]
    by_cases hkj : j = k
    ·subst hkj; simp [hjl, hej, h3]
    ·simp [hkj]
   refine ⟨?_, ?_, ?_⟩
   ·intro x hx
    rw [hmod] at hx
    have : x.born ∈ es.toList.map (·.born) := by rw [← hborn]; exact List.mem_map.2 ⟨x, hx, rfl⟩
    obtain ⟨y, hy, hxy⟩ := List.mem_map.1 this
    have := s1 y hy
    omega
   ·rw [hmod, hborn]; exact s2
   ·rw [hmod, hkey]; exact s3
  ·have hmod : (es.modify j fun e => { e with key := .int .i64 i, val := l }).toList = es.toList.set j { e with key := .int .i64 i, val := l } := by
    apply List.ext_getElem?
    intro k
    rw [Array.getElem?_toList, Array.getElem?_modify, List.getElem?_set, Array.getElem?_toList]
    by_cases hkj : j = k
    ·subst hkj; simp [hjl, hej]
    ·simp [hkj]
   rw [hmod, updV_some hn h4 h5]
   rw [List.map_set, List.map_set, hm]
  ·intro q hq
   rw [updV_some hn h4 h5] at hq
   rcases List.mem_or_eq_of_mem_set hq with hq | hq
   ·exact hk q hq
   ·rw [hq]; exact hi
end
section
open Go.RowKit
structure Kn where
 c : Cfg
 s : Sta
 ver : Int
 tick : Int
 inp : List (Int × List UInt8)
 yl : Bool
def Kn.waits (k : Kn) (id : Int) : List UInt8 := ((k.inp.find? (fun p => p.1 == id)).map (·.2)).getD []
structure KAt where
 p : Nat
 q : Nat
 v1 : Value
 v2 : Value
 v3 : Value
 vp : Value
def KAt.own (a : KAt) : Nat → Prop := fun b => b = a.p ∨ b = a.q ∨ a.vp.ownBlock = some b
def kerC (k : Kn) (a : KAt) (vq : Value) : Array Value := #[.bool true, a.v1, a.v2, a.v3, .int .i64 k.s.frames, a.vp, vq, .int .i64 k.ver, .int .i64 k.tick, .map (some a.q), .bool k.yl]
def inpV (I : Nat → Prop) (w : World) (l : List (Int × List UInt8)) (m : List (Int × Value)) : Prop :=
 l.length = m.length ∧ ∀ (i : Nat) (x : Int × List UInt8) (y : Int × Value), l[i]? = some x → m[i]? = some y → x.1 = y.1 ∧ BytesV I w x.2 y.2 ∧ x.2.length ≤ 1000
structure KerB (N : Nat → Prop) (w : World) (k : Kn) (a : KAt) : Prop where
 cell : ∃ vq, w.heap[a.p]? = some (.cells (kerC k a vq) 64 (0, 0)) ∧ SlV (quV (fun b => ¬ N b)) (fun b => ¬ N b) 6 w k.s.queues vq
 sub : ∀ b, a.own b → N b
 apart : a.p ≠ a.q ∧ a.vp.ownBlock ≠ some a.p ∧ a.vp.ownBlock ≠ some a.q
 ws : SlV winV (fun b => ¬ N b) 2 w k.c.ws a.v1
 ps : SlV (pnV (fun b => ¬ N b)) (fun b => ¬ N b) 5 w k.c.ps a.v2
 cs : SlV chV (fun b => ¬ N b) 5 w k.c.cs a.v3
 parts : OwnL (ptV (fun b => ¬ N b)) 0 69 14 w a.vp k.s.parts
 inp : ∃ m, MapV w a.q m ∧ inpV (fun b => ¬ N b) w k.inp m
 bd : I64 k.s.frames ∧ I64 k.ver ∧ I64 k.tick
theorem inpV.keep {I S : Nat → Prop} {w w' : World} {l : List (Int × List UInt8)} {m : List (Int × Value)} (h : inpV I w l m) (hg : Chg S w w') (hI : ∀ b, I b → ¬ S b) : inpV I w' l m :=
 ⟨h.1, fun i x y hx hy => ⟨(h.2 i x y hx hy).1, (h.2 i x y hx hy).2.1.keep hg hI, (h.2 i x y hx hy).2.2⟩⟩
theorem KerB.keep {N S : Nat → Prop} {w w' : World} {k : Kn} {a : KAt} (h : KerB N w k a) (hg : Chg S w w') (hN : ∀ b, S b → N b) (hn : ∀ b, a.own b → ¬ S b) : KerB N w' k a := by
 have hI : ∀ b, ¬ N b → ¬ S b := fun b e e2 => e (hN b e2)
 obtain ⟨⟨vq, h1, h2⟩, h3, h4, h5, h6, h7, h8, ⟨m, h9, h10⟩, h11⟩ := h
 exact ⟨⟨vq, blk_keep h1 hg (hn _ (.inl rfl)), h2.keep hg hI (fun _ _ _ h => h.keep hg hI)⟩, h3, h4, h5.keep hg hI (fun _ _ _ h => h), h6.keep hg hI (fun _ _ _ h => h.keep hg hI), h7.keep hg hI (fun _ _ _ h => h), h8.keep hg (fun g e => hn g (.inr (.inr e))) (fun _ _ h => h.keep hg hI), ⟨m, h9.keep hg (hn _ (.inr (.inl rfl))), h10.keep hg hI⟩, h11⟩
theorem KerB.non {N : Nat → Prop} {w w' : World} {k : Kn} {a : KAt} (h : KerB N w k a) (hg : Chg Non w w') : KerB N w' k a := h.keep hg (fun _ e => e.elim) (fun _ _ e => e)
theorem KerB.sta {N : Nat → Prop} {w : World} {k : Kn} {a : KAt} (h : KerB N w k a) : ∃ vq, w.heap[a.p]? = some (.cells (kerC k a vq) 64 (0, 0)) ∧ StaV (fun b => ¬ N b ∨ a.vp.ownBlock = some b) w k.s a.vp vq := by
 obtain ⟨vq, h1, h2⟩ := h.cell
 obtain ⟨A, c, e, e1, e2, e3⟩ := h.parts.rd
 exact ⟨vq, h1, ⟨A, c, e, e1, e2, e3.mono (fun b e => .inr e) (fun _ _ _ h => h.mono (fun b e => .inl e))⟩, h2.mono (fun b e => .inl e) (fun _ _ _ h => h.mono (fun b e => .inl e))⟩
set_option maxRecDepth 100000 in
theorem none_ok (N : Nat → Prop) (w : World) (k : Kn) (a : KAt) (h : KerB N w k a) : Calls Tryz.prog 48 #[.pointer (some ⟨a.p, 0, none⟩)] w fun e w' => e = .returned (.bool false) ∧ Chg Non w w' := by
 obtain ⟨vq, h1, _⟩ := h.cell
 have h0 := blk_cell h1 0 (v := .bool true) rfl
 clear h1 h
 go_enter Tryz.func48, Tryz.ntmps48
 go_wp2_with fail
 all_goals go_ret
 all_goals exact ⟨rfl, Chg.refl _ _⟩
end
end Go.Proofs.YtmnaleaghfbclaaGreatDoor
